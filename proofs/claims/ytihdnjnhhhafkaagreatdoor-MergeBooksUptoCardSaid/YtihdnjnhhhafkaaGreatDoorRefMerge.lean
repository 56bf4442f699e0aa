/- The walk of the document's MergeBooks. -/
import Derived.Test.YtihdnjnhhhafkaaGreatDoorRefMergeLaw
import Derived.Test.YtihdnjnhhhafkaaGreatDoorRefGood
import Derived.Deep.CutBlock
set_option linter.all false
set_option maxRecDepth 100000
set_option maxHeartbeats 100000000
namespace Go.Proofs.YtihdnjnhhhafkaaGreatDoor
open Go.RowKit
theorem filter_tail {α : Type} (p : α → Bool) (N : List α) {q : Nat} (hq : q ≤ N.length) (h : ∀ j (hj : j < N.length), p N[j] = true ↔ q ≤ j) : (N.filter p).length = N.length - q := by
 have e : N = N.take q ++ N.drop q := (List.take_append_drop q N).symm
 have h1 : (N.take q).filter p = [] := by
  rw [List.filter_eq_nil_iff]
  intro x hx hp
  obtain ⟨j, hj, rfl⟩ := List.getElem_of_mem hx
  rw [List.length_take] at hj
  rw [List.getElem_take] at hp
  have := (h j (by omega)).1 hp
  omega
 have h2 : (N.drop q).filter p = N.drop q := by
  rw [List.filter_eq_self]
  intro x hx
  obtain ⟨j, hj, rfl⟩ := List.getElem_of_mem hx
  rw [List.length_drop] at hj
  rw [List.getElem_drop]
  exact (h (q + j) (by omega)).2 (by omega)
 rw [e, List.filter_append, h1, h2, List.nil_append, List.length_drop, ← e]
def metS (N : List ByteArray) (v : Value) : Nat := match v with
 | .string s => (N.filter fun x => decide (ltN s x)).length
 | _ => 0
theorem metS_last {l : List BookD} (hn : ∀ x ∈ namesF l, x ≠ ⟨#[]⟩) {k : Nat} (hk : k ≤ (namesF l).length) : metS (namesF l) (.string (lastK ⟨#[]⟩ (namesF l) k)) = (namesF l).length - k := by
 refine filter_tail _ _ hk (fun j hj => ?_)
 have hs := List.pairwise_iff_getElem.1 (names_sorted l)
 simp only [decide_eq_true_eq]
 unfold lastK
 by_cases h0 : k = 0
 ·subst h0
  simp only [if_true, Nat.zero_le, iff_true]
  have hne := hn _ (List.getElem_mem hj)
  rcases ltN_total ⟨#[]⟩ (namesF l)[j] with h | h | h
  ·exact absurd h.symm hne
  ·exact h
  ·exact absurd h (List.not_lt_nil _)
 ·rw [if_neg h0, List.getD_eq_getElem?_getD, List.getElem?_eq_getElem (show k - 1 < (namesF l).length by omega), Option.getD_some]
  refine ⟨fun h => ?_, fun h => hs _ _ _ hj (by omega)⟩
  rcases Nat.lt_or_ge j k with q | q
  ·rcases Nat.lt_or_ge j (k - 1) with q2 | q2
   ·exact absurd (hs j (k - 1) hj (by omega) q2) (ltN_asymm _ _ h)
   ·have : j = k - 1 := by omega
    subst this
    exact absurd h (ltN_asymm _ _ h)
  ·exact q
def metI (N : List Int) (v : Value) : Nat := match v with
 | .int _ s => (N.filter fun x => decide (s < x)).length
 | _ => 0
theorem metI_last {l : List TypeD} {lo : Int} (hn : ∀ x ∈ numbersF l, lo < x) {k : Nat} (hk : k ≤ (numbersF l).length) : metI (numbersF l) (.int .i64 (lastK lo (numbersF l) k)) = (numbersF l).length - k := by
 refine filter_tail _ _ hk (fun j hj => ?_)
 have hs := List.pairwise_iff_getElem.1 (numbers_sorted l)
 simp only [decide_eq_true_eq]
 unfold lastK
 by_cases h0 : k = 0
 ·subst h0
  simp only [if_true, Nat.zero_le, iff_true]
  exact hn _ (List.getElem_mem hj)
 ·rw [if_neg h0, List.getD_eq_getElem?_getD, List.getElem?_eq_getElem (show k - 1 < (numbersF l).length by omega), Option.getD_some]
  refine ⟨fun h => ?_, fun h => hs _ _ _ hj (by omega)⟩
  rcases Nat.lt_or_ge j k with q | q
  ·rcases Nat.lt_or_ge j (k - 1) with q2 | q2
   ·have := hs j (k - 1) hj (by omega) q2
    omega
   ·have : j = k - 1 := by omega
    subst this
    omega
  ·exact q
theorem num_step (last : Int) (l : List Int) (x : Int) : nextF ltO none (some last) ((l ++ [x]).map some) = if last < x ∧ (nextF ltO none (some last) (l.map some) = none ∨ x < (nextF ltO none (some last) (l.map some)).getD 0) then some x else nextF ltO none (some last) (l.map some) := by
 have key : ∀ m : Option Int, nextStep ltO none (some last) m (some x) = if last < x ∧ (m = none ∨ x < m.getD 0) then some x else m := by
  intro m
  unfold nextStep
  cases m <;> simp [ltO]
 unfold nextF
 rw [List.map_append, List.foldl_append]
 exact key _
theorem toldI_item (t : TypeD) (n : Int) : toldI t n = (itemS t n).item := by
 unfold toldI itemS
 cases itemOf t n <;> rfl
theorem next_numbers (was a b : BookD) (n : ByteArray) : ([was, a, b].map fun c => typeOf c n) = [typeOf was n, typeOf a n, typeOf b n] := rfl
theorem mergeR_results {W : World} {a : Act} {g : Nat} {c0 vl : Value} {n : Int} (hb : Box W g 24 [c0]) (h4 : a.tmps.getD 6 undef = .pointer (some ⟨g, 0, none⟩)) (h5 : a.tmps.getD 7 undef = vl) (h6 : a.tmps.getD 8 undef = .int .i64 n) :
  (results Tryz.f6 a.tmps).run Tryz.prog W = .ok (.tuple #[.agg #[c0], vl, .int .i64 n]) W := by
 have e0 := hb.cell 0
 simp only [List.getElem?_cons_zero] at e0
 simp only [Array.getD_eq_getD_getElem?] at h4 h5 h6
 simp [results, Tryz.results6, go_sem, h4, h5, h6, e0]
theorem mergeR_none_end {w W : World} {a : Act} {R : BookD × List FlawD × Int} {vl : Value} {g : Nat} (hb : Box W g 24 [.slice none 0 0]) (hw : Below w.heap.size w W) (hr : R.1 = []) (hl : RSl 3 32 RFlaw (New w) W [vl] R.2.1)
  (h4 : a.tmps.getD 6 undef = .pointer (some ⟨g, 0, none⟩)) (h5 : a.tmps.getD 7 undef = vl) (h6 : a.tmps.getD 8 undef = .int .i64 R.2.2) (hd : a.defers = []) : bodyPost Tryz.prog Tryz.f6 (BooksPost w R) .ret a W :=
 bodyPost_ret (mergeR_results hb h4 h5 h6) hd ⟨_, _, rfl, hr ▸ RSl.nil_, hl, hw⟩
theorem out_small {was a b : BookD} (h1 : goodF was = 0) (h2 : goodF a = 0) (h3 : goodF b = 0) : BookSmall (outM was a b) := by
 intro t ht
 obtain ⟨n, _, hi⟩ := List.mem_flatMap.1 ht
 have key : (tyT was a b n).items.length ≤ 1048576 := by
  show ((numbersF [typeOf was n, typeOf a n, typeOf b n]).flatMap (itemsAt (typeOf was n) (typeOf a n) (typeOf b n))).length ≤ 1048576
  have e3 : (numbersF [typeOf was n, typeOf a n, typeOf b n]).length ≤ 300 := by
   unfold numbersF
   refine Nat.le_trans (compact_le _) ?_
   rw [sortI_len]
   have := good_items h1 n
   have := good_items h2 n
   have := good_items h3 n
   simp only [List.flatMap_cons, List.flatMap_nil, List.append_nil, List.length_append, List.length_map]
   omega
  have e4 := flat_le (f := itemsAt (typeOf was n) (typeOf a n) (typeOf b n)) (c := 1) (fun x => by unfold itemsAt; split; simp; split <;> simp) (numbersF [typeOf was n, typeOf a n, typeOf b n])
  omega
 unfold nameM at hi
 split at hi
 ·cases hi
 split at hi
 ·cases hi
 split at hi
 ·cases hi
 split at hi
 ·have e : t = tyT was a b n := by simpa using hi
  rw [e]; exact key
 ·cases hi
theorem toldT_enum (b : BookD) (n : ByteArray) : (toldA 116 b n 0 = ⟨#[101, 110, 117, 109]⟩) ↔ (kindS b n).enum = true := by
 show toldT b n = _ ↔ (typeOf b n).enum = true
 unfold toldT
 cases hs : (findT b n).isSome with
 | false =>
  have : typeOf b n = .zero := by rw [Option.isSome_eq_false_iff, Option.isNone_iff_eq_none] at hs; rw [typeOf, hs]; rfl
  rw [this]; decide
 | true => cases (typeOf b n).enum <;> decide
theorem row_three {S : Nat → Prop} {W : World} {v1 v2 v3 : Value} {x y z : BookD} (r1 : RBook S W [v1] x) (r2 : RBook S W [v2] y) (r3 : RBook S W [v3] z) :
  RSl 1 24 RBook (fun g => S g ∨ g = W.heap.size) (W.alloc (.cells #[v1, v2, v3] 24)) [.slice (some ⟨W.heap.size, 0, none⟩) 3 3] [x, y, z] := by
 have hm : ∀ {v : Value} {b : BookD}, RBook S W [v] b → RBook (fun g => S g ∨ g = W.heap.size) (W.alloc (.cells #[v1, v2, v3] 24)) [v] b := fun h =>
  RBook.fair.keep (RBook.fair.mono h (fun g hg _ => .inl hg)) ⟨by simp, fun g _ hg => Below.heap_alloc W _ g hg⟩
 refine RSl.of_box (e := 24) (css := [[v1], [v2], [v3]]) (xs := [x, y, z]) (Box.new W _ [v1, v2, v3]) rfl (.inr rfl) (by simp) (by simp) ?_
 intro q t cs ht hcs
 have hq : q = 0 ∨ q = 1 ∨ q = 2 := by
  have : q < [x, y, z].length := by
   rcases Nat.lt_or_ge q [x, y, z].length with h | h
   ·exact h
   ·rw [List.getElem?_eq_none h] at ht; cases ht
  simp only [List.length_cons, List.length_nil] at this
  omega
 rcases hq with rfl | rfl | rfl <;>
 ·simp only [List.getElem?_cons_zero, List.getElem?_cons_succ, Option.some.injEq] at ht hcs
  subst ht; subst hcs
  exact ⟨rfl, by first | exact hm r1 | exact hm r2 | exact hm r3⟩
theorem nil_eq (x : ByteArray) : (x.toList == ([] : List UInt8)) = decide (x = ⟨#[]⟩) := by
 have h := ba_eq x ⟨#[]⟩
 rwa [show (⟨#[]⟩ : ByteArray).toList = [] by simp [ByteArray.toList_eq]] at h
theorem not_above (n all : ByteArray) : (!(decide (ltN n all) || decide (n = all))) = decide (ltN all n) := by
 rcases ltN_total n all with h | h | h
 ·subst h; simp [ltN_irr]
 ·simp [h, ltN_asymm _ _ h]
 ·have h1 := ltN_asymm _ _ h
  have h2 : n ≠ all := fun e => by subst e; exact ltN_irr _ h
  simp [h, h1, h2]
theorem below_own {a b c : World} {g : Nat} (h : Below a.heap.size a b) (k : b.grownBy c (some g)) (hg : a.heap.size ≤ g) : Below a.heap.size a c :=
 below_grown h k h.size (fun x e => by cases e; exact hg)
theorem flat_take {α β : Type} {f : α → List β} {l : List α} {j : Nat} (h : j < l.length) : (l.take (j + 1)).flatMap f = (l.take j).flatMap f ++ f l[j] := by
 rw [List.take_succ_eq_append_getElem h, List.flatMap_append]; simp
theorem old_set {w W : World} {cs vs : List Value} {t : TypeD} {g : Nat} (h : RType (Old w) W cs t) (hg : w.heap.size ≤ g) : RType (Old w) (setCells W g 0 vs) cs t :=
 RType.fair.keep h (Keep.setCells (fun e => by have : g < w.heap.size := e; omega) _ _ _)
theorem mergeR_any (S : Nat → Prop) (va vb vc : Value) (was a b : BookD) (w : World) (h1 : RSl 5 96 RType S w [va] was) (h2 : RSl 5 96 RType S w [vb] a) (h3 : RSl 5 96 RType S w [vc] b) (hM : MaxL w) (o1 : BookOk was) (o2 : BookOk a) (o3 : BookOk b) (s1 : BookSmall was) (s2 : BookSmall a) (s3 : BookSmall b) :
  Calls Tryz.prog 6 #[.agg #[va], .agg #[vb], .agg #[vc]] w (BooksPost w (booksM was a b)) := by
 obtain ⟨A1, k1, rfl, hlc1, hlb1⟩ := h1.form
 obtain ⟨A2, k2, rfl, hlc2, hlb2⟩ := h2.form
 obtain ⟨A3, k3, rfl, hlc3, hlb3⟩ := h3.form
 obtain ⟨x1, x2, x3, x4, x5⟩ := boxes4 w [.slice A1 was.length k1] [.slice A2 a.length k2] [.slice A3 b.length k3] [.slice none 0 0] 24 24 24 24
 have hR1 : ∀ W', Below w.heap.size w W' → RBook (Old w) W' [.slice A1 was.length k1] was ∧ RBook (Old w) W' [.slice A2 a.length k2] a ∧ RBook (Old w) W' [.slice A3 b.length k3] b ∧ MaxL W' := fun W' h =>
  ⟨RBook.fair.below (RBook.fair.old h1) h, RBook.fair.below (RBook.fair.old h2) h, RBook.fair.below (RBook.fair.old h3) h, hM.below h⟩
 have HR := Lib.hid hR1
 have Hg1 := Lib.hid (fun W' (h : Below w.heap.size w W') => goodR_any (Old w) _ was W' (hR1 W' h).1 (hR1 W' h).2.2.2 o1 s1)
 have Hg2 := Lib.hid (fun W' (h : Below w.heap.size w W') => goodR_any (Old w) _ a W' (hR1 W' h).2.1 (hR1 W' h).2.2.2 o2 s2)
 have Hg3 := Lib.hid (fun W' (h : Below w.heap.size w W') => goodR_any (Old w) _ b W' (hR1 W' h).2.2.1 (hR1 W' h).2.2.2 o3 s3)
 have Ho := Lib.hid (out_ok o1 o2 o3)
 obtain ⟨R, hR⟩ : ∃ R, R = booksM was a b := ⟨_, rfl⟩
 rw [← hR]
 have HRR := Lib.hid hR
 clear h1 h2 h3 hM o1 o2 o3 s1 s2 s3 hR1 hR
 have c0 := x1.cell 0
 have l0 := x1.lt
 simp only [List.getElem?_cons_zero] at c0
 go_enter Tryz.func6, Tryz.ntmps6
 go_wp2_with fail
 refine (Hg1.out _ x5).mono ?_
 rintro e w1 ⟨rfl, hb1⟩
 have hw1 := below_via x5 hb1 x5.size
 have y1 := x1.below hb1 x1.lt
 have y2 := x2.below hb1 x2.lt
 have y3 := x3.below hb1 x3.lt
 have y4 := x4.below hb1 x4.lt
 clear c0 l0 x1 x2 x3 x4 x5 hb1 Hg1
 by_cases hg1 : goodF was = 0
 ·have e1 : (goodF was != 0) = false := by simp [hg1]
  have c0 := y2.cell 0
  have l0 := y2.lt
  simp only [List.getElem?_cons_zero] at c0
  have HG1 := Lib.hid hg1
  clear hg1
  go_wp2_with fail
  refine (Hg2.out _ hw1).mono ?_
  rintro e w2 ⟨rfl, hb2⟩
  have hw2 := below_via hw1 hb2 hw1.size
  have z1 := y1.below hb2 y1.lt
  have z2 := y2.below hb2 y2.lt
  have z3 := y3.below hb2 y3.lt
  have z4 := y4.below hb2 y4.lt
  clear c0 l0 y1 y2 y3 y4 hb2 hw1 Hg2
  by_cases hg2 : goodF a = 0
  ·have e2 : (goodF a != 0) = false := by simp [hg2]
   have c0 := z3.cell 0
   have l0 := z3.lt
   simp only [List.getElem?_cons_zero] at c0
   have HG2 := Lib.hid hg2
   clear hg2
   go_wp2_with fail
   refine (Hg3.out _ hw2).mono ?_
   rintro e w3 ⟨rfl, hb3⟩
   have hw3 := below_via hw2 hb3 hw2.size
   have u1 := z1.below hb3 z1.lt
   have u2 := z2.below hb3 z2.lt
   have u3 := z3.below hb3 z3.lt
   have u4 := z4.below hb3 z4.lt
   clear c0 l0 z1 z2 z3 z4 hb3 hw2 Hg3
   by_cases hg3 : goodF b = 0
   ·have e3 : (goodF b != 0) = false := by simp [hg3]
    have HG3 := Lib.hid hg3
    clear hg3
    obtain ⟨N, hN⟩ : ∃ N, N = namesF [was, a, b] := ⟨_, rfl⟩
    have hNl : N.length ≤ 12 := by rw [hN]; exact names_len HG1.out HG2.out HG3.out
    have HNL := Lib.hid hNl
    have HN := Lib.hid hN
    have HMet := Lib.hid (fun (k : Nat) (hk : k ≤ N.length) => (hN ▸ metS_last (names_some HG1.out HG2.out HG3.out) (hN ▸ hk) : metS N (.string (lastK ⟨#[]⟩ N k)) = N.length - k))
    have HNx := Lib.hid (fun (k : Nat) (hk : k ≤ N.length) => (hN ▸ next_name (names_some HG1.out HG2.out HG3.out) (hN ▸ hk) : nextF (fun x y => decide (ltN x y)) ⟨#[]⟩ (lastK ⟨#[]⟩ N k) ([was, a, b].flatMap fun b => b.map (·.name)) = if h : k < N.length then N[k] else ⟨#[]⟩))
    have b9 := Box.new w3 24 [.slice none 0 0]
    have v1 := u1.alloc (.cells #[.slice none 0 0] 24)
    have v2 := u2.alloc (.cells #[.slice none 0 0] 24)
    have v3 := u3.alloc (.cells #[.slice none 0 0] 24)
    have v4 := u4.alloc (.cells #[.slice none 0 0] 24)
    have hwa := hw3.alloc hw3.size (.cells #[.slice none 0 0] 24)
    have hl4 : w.heap.size + 1 + 1 + 1 < w3.heap.size := u4.lt
    obtain ⟨G9, hG9⟩ : ∃ g, g = w3.heap.size := ⟨_, rfl⟩
    rw [← hG9] at b9 hl4
    have hs9 : (w3.alloc (.cells #[.slice none 0 0] 24)).heap.size = G9 + 1 := by rw [hG9]; simp
    clear u1 u2 u3 u4 hw3 hN hNl
    go_upto_region 5 with fail
    generalize hWa : w3.alloc (.cells _ 24) = Wa at *
    rw [← hG9]
    clear hG9 hWa
    obtain ⟨M4, hM4⟩ : ∃ M, M = Wa.heap.size := ⟨_, rfl⟩
    have hM9 : G9 < M4 := by omega
    have hM9b : M4 ≤ G9 + 1 := by omega
    have hMa : M4 ≤ Wa.heap.size := by omega
    have hALL : ∀ W', Below G9 Wa W' → (RBook (Old w) W' [.slice A1 was.length k1] was ∧ RBook (Old w) W' [.slice A2 a.length k2] a ∧ RBook (Old w) W' [.slice A3 b.length k3] b ∧ MaxL W') ∧ (Box W' w.heap.size 24 [.slice A1 was.length k1] ∧ Box W' (w.heap.size + 1) 24 [.slice A2 a.length k2] ∧ Box W' (w.heap.size + 1 + 1) 24 [.slice A3 b.length k3] ∧ Box W' (w.heap.size + 1 + 1 + 1) 24 [.slice none 0 0]) ∧ Below w.heap.size w W' := fun W' h =>
     ⟨HR.out W' (hwa.trans (h.mono (by omega))), ⟨v1.below h (by omega), v2.below h (by omega), v3.below h (by omega), v4.below h (by omega)⟩, hwa.trans (h.mono (by omega))⟩
    have HALL := Lib.hid hALL
    have hOB0 : OB M4 Wa (.slice none 0 0) (.slice none 0 0) [] [] := OB.nil _ _
    clear HR v1 v2 v3 v4 hwa hALL hM4 hs9
    go_wp2_with fail
    go_loopw [10, 11] (fun vb s wr => ∃ (q : Nat) (acc : List TypeD) (B : List FlawD) (vt : Value), s = .string (lastK ⟨#[]⟩ N q) ∧ q ≤ N.length ∧ Hid (acc = (N.take q).flatMap fun n => (nameM was a b n).1) ∧ Hid (B = (N.take q).flatMap fun n => (nameM was a b n).2) ∧ Hid (acc.length ≤ q ∧ B.length ≤ 330 * q) ∧
      OB M4 wr vt vb acc B ∧ Box wr G9 24 [vt] ∧ Below G9 Wa wr) (fun _ s _ => metS N s)
    case atStart => exact ⟨0, [], [], _, rfl, by omega, rfl, rfl, (show _ ∧ _ by simp), hOB0, b9, Below.refl _ _⟩
    case round =>
     obtain ⟨q, acc, B, vt, rfl, hq, hacc, hB, hlen, hO, hb9, hb⟩ := hrel
     clear hOB0 b9
     obtain ⟨U, hU⟩ : ∃ V, V = wr := ⟨_, rfl⟩
     subst hU
     have hvs : G9 ≤ U.heap.size := by have := hb9.lt; go_light; omega
     have HV := Lib.hid (fun W' (h : Below U.heap.size U W') => (hb.trans (h.mono hvs) : Below G9 Wa W'))
     have bT := Box.new U 9 [.string ⟨#[]⟩]
     have hbW := (Below.here U).alloc (Nat.le_refl _) (.cells #[.string ⟨#[]⟩] 9)
     obtain ⟨all, hall⟩ : ∃ s, s = lastK ⟨#[]⟩ N q := ⟨_, rfl⟩
     obtain ⟨F, hF⟩ : ∃ F : List ByteArray → ByteArray, F = nextF (fun x y => decide (ltN x y)) ⟨#[]⟩ (lastK ⟨#[]⟩ N q) := ⟨_, rfl⟩
     have HF0 := Lib.hid (show F [] = ⟨#[]⟩ by rw [hF]; rfl)
     have HFs := Lib.hid (show ∀ l x, F (l ++ [x]) = if ltN all x ∧ (F l = ⟨#[]⟩ ∨ ltN x (F l)) then x else F l from fun l x => by
      rw [hF, hall]; unfold nextF; rw [List.foldl_append]; simp only [List.foldl_cons, List.foldl_nil, nextStep, decide_eq_true_eq])
     have HFe := Lib.hid (show F ([was, a, b].flatMap fun b => b.map (·.name)) = if h : q < N.length then N[q] else ⟨#[]⟩ by rw [hF]; exact HNx.out q hq)
     have Hall := Lib.hid hall
     rw [← hall]
     clear hF hall
     go_upto_region 7 with fail
     generalize (World.alloc U _) = Wb at bT hbW ⊢
     have hA := HALL.out Wb (HV.out Wb hbW)
     have hrow := row_three hA.1.1 hA.1.2.1 hA.1.2.2.1
     have c1 := hA.2.1.1.cell 0
     have c2 := hA.2.1.2.1.cell 0
     have c3 := hA.2.1.2.2.1.cell 0
     have l1 := hA.2.1.1.lt
     have l2 := hA.2.1.2.1.lt
     have l3 := hA.2.1.2.2.1.lt
     simp only [List.getElem?_cons_zero] at c1 c2 c3
     have bT2 := bT.alloc (.cells #[.slice A1 was.length k1, .slice A2 a.length k2, .slice A3 b.length k3] 24)
     have hbW2 := hbW.alloc hbW.size (.cells #[.slice A1 was.length k1, .slice A2 a.length k2, .slice A3 b.length k3] 24)
     have hlY := bT.lt
     clear hA bT hbW
     go_wp2_with fail
     generalize Wb.heap.size = Y at hrow hlY ⊢
     generalize (World.alloc Wb _) = Wc at hrow bT2 hbW2 ⊢
     have hwT : w.heap.size < U.heap.size := by have := (HALL.out U (HV.out U (Below.here U))).2.1.1.lt; exact this
     have hrow2 := (RSl.fair RBook.fair).mono (T := fun g => g ≠ U.heap.size) hrow (fun g hg _ => by
      rcases hg with h | h
      ·have : g < w.heap.size := h; omega
      ·omega)
     have Hrow := Lib.hid hrow2
     clear c1 c2 c3 l1 l2 l3 hrow hrow2
     go_loopw [63] (fun i wt => ∃ j : Nat, i = .int .i64 j ∧ j ≤ 3 ∧ Box wt U.heap.size 9 [.string (F (([was, a, b].take j).flatMap fun b => b.map (·.name)))] ∧ Wc.grownBy wt (some U.heap.size)) (fun i _ => 3 - (intOf i).toNat)
     case atStart => exact ⟨0, rfl, by omega, by rw [show (([was, a, b].take 0).flatMap fun b => b.map (·.name)) = ([] : List ByteArray) from rfl, HF0.out]; exact bT2, World.grownBy.refl _ _⟩
     case round =>
      obtain ⟨wt, hwt⟩ : ∃ V, V = wr := ⟨_, rfl⟩
      subst hwt
      obtain ⟨j, rfl, hj, bT, hg⟩ := hrel
      by_cases hj3 : j < 3
      ·--[NA
       as_aux_lemma =>
       have hr0 := (RSl.fair RBook.fair).keep Hrow.out (Keep.of_grown hg (fun k e h => h (Option.some.inj e).symm))
       obtain ⟨es, hle, hre, hce⟩ := hr0.lies (k := j) (by simpa using hj3)
       obtain ⟨x, hx⟩ : ∃ x, x = [was, a, b][j]'(by simpa using hj3) := ⟨_, rfl⟩
       rw [← hx] at hre
       have hst := flat_take (f := fun b : BookD => b.map (·.name)) (l := [was, a, b]) (j := j) (by simpa using hj3)
       rw [← hx] at hst
       have Hst := Lib.hid hst
       have HX := Lib.hid hre
       obtain ⟨Ax, cx, rfl, -⟩ := hre
       have q0 : wt.cell? ⟨Y, j, none⟩ = some (.slice Ax x.length cx) := by have := hce.at_ 0 rfl; simpa using this
       have qlt := World.block_lt_of_cell? wt _ q0
       have b14 := Box.new wt 24 [.slice Ax x.length cx]
       have hg4 := grown_alloc hg (.cells #[.slice Ax x.length cx] 24)
       have bT4 := bT.alloc (.cells #[.slice Ax x.length cx] 24)
       have hX4 := RBook.fair.keep HX.out (Keep.alloc _ wt (.cells #[.slice Ax x.length cx] 24))
       have hj3' : (j : Int) < 3 := by omega
       obtain ⟨pre, hpre⟩ : ∃ p : List ByteArray, p = (([was, a, b].take j).flatMap fun b => b.map (·.name)) := ⟨_, rfl⟩
       rw [← hpre] at Hst bT4
       clear hr0 hce hx hst hpre bT hg HX
       go_upto_region 10 with fail
       generalize wt.heap.size = X14 at b14 ⊢
       generalize (World.alloc wt _) = Wd at b14 hg4 bT4 hX4 ⊢
       have d0 := b14.cell 0
       have dl := b14.lt
       simp only [List.getElem?_cons_zero] at d0
       obtain ⟨_, _, -, -, hxb⟩ := hX4.form
       have HX := Lib.hid hX4
       clear q0 qlt b14 hX4
       go_wp2_with fail
       clear d0 dl
       go_loopw [70] (fun i wu => ∃ i' : Nat, i = .int .i64 i' ∧ i' ≤ x.length ∧ Box wu U.heap.size 9 [.string (F (pre ++ (x.take i').map (·.name)))] ∧ Wd.grownBy wu (some U.heap.size)) (fun i _ => x.length - (intOf i).toNat)
       case atStart => exact ⟨0, rfl, by omega, by rw [List.take_zero, List.map_nil, List.append_nil]; exact bT4, World.grownBy.refl _ _⟩
       case round =>
        clear bT4
        obtain ⟨wu, hwu⟩ : ∃ V, V = wr := ⟨_, rfl⟩
        subst hwu
        obtain ⟨i', rfl, hi, bT, hgu⟩ := hrel
        by_cases hil : i' < x.length
        ·--[NB
         as_aux_lemma =>
         have hr0 := RBook.fair.keep HX.out (Keep.of_grown hgu (fun k e h => h (Option.some.inj e).symm))
         obtain ⟨g, o, es, hA, hS, hgl, -, hre, hc⟩ := hr0.at_ hil
         obtain ⟨ty, hty⟩ : ∃ t, t = x[i'] := ⟨_, rfl⟩
         rw [← hty] at hre
         obtain ⟨B1, b1, B2, b2, B3, b3, rfl, -, -, -⟩ := hre.parts
         have e1 : pre ++ (x.take (i' + 1)).map (·.name) = (pre ++ (x.take i').map (·.name)) ++ [ty.name] := by rw [List.take_succ_eq_append_getElem hil, ← hty]; simp
         have HF1 := Lib.hid (show F (pre ++ (x.take (i' + 1)).map (·.name)) = if ltN all ty.name ∧ (F (pre ++ (x.take i').map (·.name)) = ⟨#[]⟩ ∨ ltN ty.name (F (pre ++ (x.take i').map (·.name)))) then ty.name else F (pre ++ (x.take i').map (·.name)) by rw [e1]; exact HFs.out _ _)
         obtain ⟨cur, hcur⟩ : ∃ c, c = F (pre ++ (x.take i').map (·.name)) := ⟨_, rfl⟩
         rw [← hcur] at bT HF1
         have q0 : wu.cell? ⟨g, o + i' * 5, none⟩ = some (.string ty.name) := hc.at_ 0 rfl
         have q1 : wu.cell? ⟨g, o + i' * 5 + 1, none⟩ = some (.bool ty.enum) := hc.at_ 1 rfl
         have q2 : wu.cell? ⟨g, o + i' * 5 + 2, none⟩ = some (.slice B1 ty.fields.length b1) := hc.at_ 2 rfl
         have q3 : wu.cell? ⟨g, o + i' * 5 + 3, none⟩ = some (.slice B2 ty.gone.length b2) := hc.at_ 3 rfl
         have q4 : wu.cell? ⟨g, o + i' * 5 + 4, none⟩ = some (.slice B3 ty.items.length b3) := hc.at_ 4 rfl
         have z16 := Box.new wu 38 [.string ty.name, .bool ty.enum, .slice B1 ty.fields.length b1, .slice B2 ty.gone.length b2, .slice B3 ty.items.length b3]
         have hgv := grown_alloc hgu (.cells #[.string ty.name, .bool ty.enum, .slice B1 ty.fields.length b1, .slice B2 ty.gone.length b2, .slice B3 ty.items.length b3] 38)
         have bTv := bT.alloc (.cells #[.string ty.name, .bool ty.enum, .slice B1 ty.fields.length b1, .slice B2 ty.gone.length b2, .slice B3 ty.items.length b3] 38)
         have hil' : (i' : Int) < (x.length : Int) := by omega
         subst hA
         clear hr0 hS hre hc hty e1 hcur bT hgu
         go_upto_region 13 with fail
         generalize wu.heap.size = X16 at z16 ⊢
         generalize (World.alloc wu _) = Wv at z16 hgv bTv ⊢
         have d0 : Wv.cell? ⟨X16, 0, none⟩ = some (.string ty.name) := z16.cell 0
         have dl := z16.lt
         have s0 : Wv.cell? ⟨U.heap.size, 0, none⟩ = some (.string cur) := bTv.cell 0
         have sl := bTv.lt
         clear q0 q1 q2 q3 q4 z16 hgl
         obtain ⟨n, hn⟩ : ∃ n, n = ty.name := ⟨_, rfl⟩
         rw [← hn] at HF1 d0
         obtain ⟨c4, hc4⟩ : ∃ c, c = decide (ltN n all) := ⟨_, rfl⟩
         obtain ⟨c5, hc5⟩ : ∃ c, c = decide (n = all) := ⟨_, rfl⟩
         obtain ⟨c2, hc2⟩ : ∃ c, c = decide (cur = ⟨#[]⟩) := ⟨_, rfl⟩
         obtain ⟨c3, hc3⟩ : ∃ c, c = decide (ltN n cur) := ⟨_, rfl⟩
         have e1 : Op.bytesLess n.toList all.toList = c4 := by rw [hc4, ByteArray.toList_eq, ByteArray.toList_eq, less_lt]; rfl
         have e4 : (n.toList == all.toList) = c5 := (ba_eq _ _).trans hc5.symm
         have e2 : (cur.toList == ([] : List UInt8)) = c2 := (nil_eq _).trans hc2.symm
         have e3 : Op.bytesLess n.toList cur.toList = c3 := by rw [hc3, ByteArray.toList_eq, ByteArray.toList_eq, less_lt]; rfl
         have hx : ¬ (c4 = true ∧ c5 = true) := by rw [hc4, hc5]; simp only [decide_eq_true_eq]; rintro ⟨h1, h2⟩; rw [h2] at h1; exact ltN_irr _ h1
         obtain ⟨m, hm⟩ : ∃ m, m = (!(c4 || c5) && (c2 || c3)) := ⟨_, rfl⟩
         have HF2 : Hid (F (pre ++ (x.take (i' + 1)).map (·.name)) = if m = true then n else cur) := by
          show _ = _
          rw [HF1.out, hm, hc4, hc5, hc2, hc3, not_above]
          simp only [Bool.and_eq_true, Bool.or_eq_true, decide_eq_true_eq]
         clear HF1 hc4 hc5 hc2 hc3 hn
         go_cut [87] from 74 to 86 (fun c W1 => c = .bool m ∧ W1 = Wv)
         case first =>
          clear HF2
          cases c4 <;> cases c5 <;> cases c2 <;> cases c3 <;> simp only [Bool.true_and, Bool.false_and, Bool.or_true, Bool.or_false, Bool.true_or, Bool.false_or, Bool.not_true, Bool.not_false] at hm
          all_goals first | exact absurd ⟨rfl, rfl⟩ hx | (subst hm; clear hx; go_wp2_with fail; go_meet; case rel => exact ⟨rfl, rfl⟩)
         case rest =>
         obtain ⟨rfl, hwc⟩ := hcut
         subst hwc
         have hgf := bTv.frozen 0
         clear hm hx e1 e2 e3 e4
         cases m with
         | true =>
          have hbs := bTv.set_ 0 (.string n)
          go_wp2_with fail
          go_roundw
          case rel => exact ⟨i' + 1, by go_num, by go_light; omega, by rw [HF2.out]; exact hbs, grown_setCell hgv (.inl rfl) _⟩
          case measure => go_light; simp [intOf]; omega
         | false =>
          go_wp2_with fail
          go_roundw
          case rel => exact ⟨i' + 1, by go_num, by go_light; omega, by rw [HF2.out]; exact bTv, hgv⟩
          case measure => go_light; simp [intOf]; omega
        ·have e1 : F (pre ++ (x.take i').map (·.name)) = F (([was, a, b].take (j + 1)).flatMap fun b => b.map (·.name)) := by rw [Hst.out, List.take_of_length_le (by omega)]
         rw [e1] at bT
         clear e1
         have hg5 := grown_via hg4 hgu (.inl rfl)
         have hil' : ¬ (i' : Int) < (x.length : Int) := by omega
         go_wp2_with fail
         go_roundw
         case rel => exact ⟨j + 1, by go_num, by go_light; omega, bT, hg5⟩
         case measure => go_light; simp [intOf]; omega
      ·have e1 : (([was, a, b].take j).flatMap fun b => b.map (·.name)) = [was, a, b].flatMap fun b => b.map (·.name) := by rw [List.take_of_length_le (by simp; omega)]
       rw [e1, HFe.out] at bT
       have hj3' : ¬ (j : Int) < 3 := by omega
       have hbV := below_own hbW2 hg (Nat.le_refl _)
       clear e1 HFe HFs HF0 bT2 hg Hrow hbW2
       by_cases hlq : q < N.length
       ·rw [dif_pos hlq] at bT
        obtain ⟨n, hn⟩ : ∃ n, n = N[q] := ⟨_, rfl⟩
        rw [← hn] at bT
        have hne : n ≠ ⟨#[]⟩ := by rw [hn]; exact names_some HG1.out HG2.out HG3.out _ (HN.out ▸ List.getElem_mem hlq)
        have eN : (n.toList == ([] : List UInt8)) = false := by rw [nil_eq]; simpa using hne
        have hst1 := take_step N (fun n => (nameM was a b n).1) hlq
        have hst2 := take_step N (fun n => (nameM was a b n).2) hlq
        rw [← hn] at hst1 hst2
        have hlast : lastK ⟨#[]⟩ N (q + 1) = n := by
         unfold lastK
         rw [if_neg (by omega), Nat.add_sub_cancel, List.getD_eq_getElem?_getD, List.getElem?_eq_getElem hlq, Option.getD_some, hn]
        have Hst1 := Lib.hid hst1
        have Hst2 := Lib.hid hst2
        have HLast := Lib.hid hlast
        have HMs := Lib.hid (show metS N (.string n) < metS N (.string all) by rw [Hall.out, HMet.out q hq, ← hlast, HMet.out (q + 1) hlq]; omega)
        have hO1 := hO.below hbV
        have hb91 := hb9.below hbV hb9.lt
        have hbW := HV.out _ hbV
        have hMT : M4 ≤ U.heap.size := by have := hb9.lt; go_light; omega
        obtain ⟨V, hV⟩ : ∃ V, V = wt := ⟨_, rfl⟩
        subst hV
        have hTV := bT.lt
        have hsV : G9 ≤ V.heap.size := by go_light; omega
        have HVV := Lib.hid (fun W' (h : Below V.heap.size V W') => (⟨hbW.trans (h.mono hsV), bT.below h bT.lt⟩ : Below G9 Wa W' ∧ Box W' U.heap.size 9 [.string n]))
        have HFR := Lib.hid (fun (c m : Int) (hc : IsKey c) W' (h : Below V.heap.size V W') => (by
         have hB := HVV.out W' h
         have hA := HALL.out W' hB.1
         exact from_any (Old w) w.heap.size U.heap.size (w.heap.size + 1) (w.heap.size + 1 + 1) _ _ _ was a b n c m W' hA.2.1.1 hB.2 hA.2.1.2.1 hA.2.1.2.2.1 hA.1.1 hA.1.2.1 hA.1.2.2.1 hc (good_fieldsOk HG1.out) (good_fieldsOk HG2.out) (good_fieldsOk HG3.out) :
         Calls Tryz.prog 17 #[.int .u8 c, .int .i64 m, .pointer (some ⟨w.heap.size, 0, none⟩), .pointer (some ⟨U.heap.size, 0, none⟩), .pointer (some ⟨w.heap.size + 1, 0, none⟩), .pointer (some ⟨w.heap.size + 1 + 1, 0, none⟩)] W'
          (Ret W' (ptrF (w.heap.size + 1) (w.heap.size + 1 + 1) (pickF (toldA c was n m) (toldA c a n m) (toldA c b n m))))))
        have HCH := Lib.hid (fun (c m : Int) => choice HG1.out HG2.out HG3.out (w.heap.size + 1) (w.heap.size + 1 + 1) c n m)
        have s0 : V.cell? ⟨U.heap.size, 0, none⟩ = some (.string n) := bT.cell 0
        have sl := bT.lt
        have hfr := HFR.out 116 0 (.inl rfl) V (Below.here V)
        obtain ⟨hp, hhp⟩ : ∃ p, p = ptrF (w.heap.size + 1) (w.heap.size + 1 + 1) (pickF (toldA 116 was n 0) (toldA 116 a n 0) (toldA 116 b n 0)) := ⟨_, rfl⟩
        have hch := HCH.out 116 0
        rw [← hhp] at hfr hch
        have Hfr := Lib.hid hfr
        have HkT := Lib.hid (show kT was a b n = threeF (stA 116 was n 0) (stA 116 a n 0) (stA 116 b n 0) from rfl)
        clear hne hst1 hst2 hlast hO hb9 hbV hb HV hfr hhp hn bT Hall
        go_wp2_with fail
        refine Hfr.out.mono ?_
        rintro e V1 ⟨rfl, hb1⟩
        have hO2 := hO1.below hb1
        have hb92 := hb91.below hb1 hb91.lt
        have bT1 := (HVV.out V1 hb1).2
        clear s0 sl hO1 hb91 Hfr eN hbW
        rcases hch with ⟨rfl, hk0⟩ | ⟨gh, h, hgh, rfl, hk0⟩
        ·have hnm : nameM was a b n = ([], [⟨n, 0, 0⟩]) := by unfold nameM; rw [HkT.out, if_pos hk0]
         have HA2 := Lib.hid (show acc = (N.take (q + 1)).flatMap fun n => (nameM was a b n).1 by rw [Hst1.out, hnm, List.append_nil]; exact hacc.out)
         have HB2 := Lib.hid (show B ++ [⟨n, 0, 0⟩] = (N.take (q + 1)).flatMap fun n => (nameM was a b n).2 by rw [Hst2.out, hnm, ← hB.out])
         obtain ⟨Sb, cb, rfl, hcb⟩ := hO2.b.form
         have s0 : V1.cell? ⟨U.heap.size, 0, none⟩ = some (.string n) := bT1.cell 0
         have sl := bT1.lt
         have hbV1 := (HVV.out V1 hb1).1
         have hlB : B.length ≤ 330 * q := hlen.out.2
         have hla : acc.length ≤ q := hlen.out.1
         have hnl2 : N.length ≤ 12 := HNL.out
         have hs1 : V.heap.size ≤ V1.heap.size := hb1.size
         clear hnm hacc hB hlen hk0 HkT HFR HCH HVV HALL
         as_aux_lemma =>
         go_wp2_with (at_builtin; go_must (refine wl_append _ rfl (.tmp 100) (.tmp 103) rfl sl_flaws RFlaw.fair rfl rfl (hO2.b.alloc RFlaw.fair _) (Src.one (es := [.string n, .int .i64 0, .int .i64 0]) (y := FlawD.mk n 0 0) rfl (Ones.of_all rfl) rfl (Lies.newAt (by first | rfl | simp [World.setCell]))) (NoT.lt _) ?_ ?_ ?_))
         ·go_light; (try simp only [List.length_cons, List.length_nil]); omega
         ·go_light; simp only [World.size_alloc]; omega
         ·intro v6 w6 ho6 hg6 hv6
          have hO6 := (hO2.alloc (.cells #[.string n, .int .i64 0, .int .i64 0] 50)).pushB hg6 ho6 (by simpa using hv6)
          have h96 := (hb92.alloc (.cells #[.string n, .int .i64 0, .int .i64 0] 50)).grownR (hO2.b.alloc RFlaw.fair _) (.inl (by go_light; omega)) hg6
          have hb6 := below_grown (hbV1.alloc (by go_light; omega) (.cells #[.string n, .int .i64 0, .int .i64 0] 50)) hg6 (by go_light; simp only [World.size_alloc]; omega) (fun g' h => by have := (hO2.b.lt h).1; go_light; omega)
          go_wp2_with fail
          go_roundw
          case rel => exact ⟨q + 1, acc, B ++ [⟨n, 0, 0⟩], _, by rw [HLast.out], hlq, HA2, HB2, (show _ ∧ _ by refine ⟨?_, ?_⟩ <;> (try simp only [List.length_append, List.length_cons, List.length_nil]) <;> omega), hO6, h96, hb6⟩
          case measure => exact HMs.out
        ·have HK := Lib.hid (show kT was a b n = (kindS h n, true) from HkT.out.trans hk0)
         have HBK := Lib.hid (fun (g' : Nat) (h' : BookD) (hh : g' = w.heap.size + 1 ∧ h' = a ∨ g' = w.heap.size + 1 + 1 ∧ h' = b) => (by
          rcases hh with ⟨rfl, rfl⟩ | ⟨rfl, rfl⟩
          ·exact ⟨HG2.out, A2, k2, fun W' hW => ⟨(HALL.out W' hW).2.1.2.1, (HALL.out W' hW).1.2.1⟩⟩
          ·exact ⟨HG3.out, A3, k3, fun W' hW => ⟨(HALL.out W' hW).2.1.2.2.1, (HALL.out W' hW).1.2.2.1⟩⟩ :
          goodF h' = 0 ∧ ∃ Ah ch, ∀ W', Below G9 Wa W' → Box W' g' 24 [.slice Ah h'.length ch] ∧ RBook (Old w) W' [.slice Ah h'.length ch] h'))
         obtain ⟨hgo, Ah, ch, hhd9⟩ := HBK.out gh h hgh
         have hhd := fun W' (hW : Below V.heap.size V W') => hhd9 W' (HVV.out W' hW).1
         have Hhd9 := Lib.hid hhd9
         have Hhd := Lib.hid hhd
         have HTD := Lib.hid (fun (c m : Int) (hc : IsKey c) W' (hW : Below V.heap.size V W') => told_any (Old w) _ h n c m W' (hhd W' hW).2 hc (good_fieldsOk hgo))
         obtain ⟨en, hen⟩ : ∃ en, en = (kindS h n).enum := ⟨_, rfl⟩
         have Hen := Lib.hid hen
         have Hgo := Lib.hid hgo
         obtain ⟨td, htd⟩ : ∃ s, s = toldA 116 h n 0 := ⟨_, rfl⟩
         have et : (td.toList == [101, 110, 117, 109]) = en := by
          have h1 := ba_eq td ⟨#[101, 110, 117, 109]⟩
          rw [show (⟨#[101, 110, 117, 109]⟩ : ByteArray).toList = [101, 110, 117, 109] by simp [ByteArray.toList_eq]] at h1
          rw [h1, hen, htd, Bool.eq_iff_iff, decide_eq_true_eq]
          exact toldT_enum h n
         have htc := fun W' (hW : Below V1.heap.size V1 W') => HTD.out 116 0 (.inl rfl) W' (below_via hb1 hW hb1.size)
         rw [← htd] at htc
         have Htc := Lib.hid htc
         have HS := Lib.hid (fun W' (hW : Below V1.heap.size V1 W') => (show (fun W' => World.cell? W' ⟨U.heap.size, 0, none⟩ = some (.string n) ∧ World.cell? W' ⟨gh, 0, none⟩ = some (.slice Ah h.length ch)) W' from
          ⟨(HVV.out W' (below_via hb1 hW hb1.size)).2.cell 0, (Hhd.out W' (below_via hb1 hW hb1.size)).1.cell 0⟩))
         clear hhd hhd9 hgo hen htd htc HkT hk0 hgh
         go_upto_region 23 with fail
         go_cut [19] from 105 to 112 (fun p W1 => ∃ g, p = .pointer (some ⟨g, 0, none⟩) ∧ V1.heap.size ≤ g ∧ Box W1 g 38 [.string n, .bool en, .slice none 0 0, .slice none 0 0, .slice none 0 0] ∧ Below V1.heap.size V1 W1)
         case first =>
          as_aux_lemma =>
          have hB := below_drew (Below.here V1)
          have hS := HS.out _ hB
          refine lateP_start (fun W' => World.cell? W' ⟨U.heap.size, 0, none⟩ = some (.string n) ∧ World.cell? W' ⟨gh, 0, none⟩ = some (.slice Ah h.length ch)) (fun _ => true) (by kernel_rfl) ?_
          generalize V1.drew = Wb at hB hS ⊢
          refine tkP 0 hS ?_
          try simp only [pu]
          refine ppP 1 ?_
          try simp only [pu]
          refine ppP 2 ?_
          try simp only [pu]
          refine tkP 3 hS ?_
          try simp only [pu]
          refine tkP 4 hS ?_
          try simp only [pu]
          refine lateP_two (i := 5) (j := 8) rfl rfl (by kernel_rfl) (fun K hK => ?_) (fun K hK => ?_)
          ·go_simp
           refine (Htc.out _ hB).mono ?_
           rintro e wn ⟨rfl, hbn⟩
           replace hB := below_via hB hbn hB.size
           clear hS
           have hS := HS.out _ hB
           refine hK.out _ _ (fun _ _ => hS) ?_
           clear hK K
           try simp only [pu]
           refine ppP 6 ?_
           try simp only [pu]
           refine ppP 7 ?_
           try simp only [pu]
           refine lateP_one (i := 8) rfl (by kernel_rfl) (fun K hK => ?_)
           go_simp
           have hG := Box.newB hB 38 [.string ⟨#[]⟩, .bool false, .slice none 0 0, .slice none 0 0, .slice none 0 0]
           have hGl := hB.size
           try simp only [drew_size] at hG hGl
           replace hB := hB.alloc hB.size (.cells #[.string ⟨#[]⟩, .bool false, .slice none 0 0, .slice none 0 0, .slice none 0 0] 38)
           clear hS
           have hS := HS.out _ hB
           refine hK.out _ _ (fun _ _ => hS) ?_
           clear hK K
           try simp only [pu]
           generalize (World.alloc _ (.cells #[.string ⟨#[]⟩, .bool false, .slice none 0 0, .slice none 0 0, .slice none 0 0] 38)) = WW at hB hG hS ⊢
           obtain ⟨r0, r1, r2, r3, r4⟩ := hG.five
           have g0 := hG.frozen 0
           have g1 := hG.frozen 1
           have g2 := hG.frozen 2
           have g3 := hG.frozen 3
           have g4 := hG.frozen 4
           have hlr := hG.lt
           refine lateP_one (i := 9) rfl (by kernel_rfl) (fun K hK => ?_)
           go_simp
           clear r0 r1 r2 r3 r4 g0 g1 g2 g3 g4
           replace hB := below_setCells hGl [.string n, .bool en, .slice none 0 0, .slice none 0 0, .slice none 0 0] 0 _ hB
           replace hG := hG.setCells [.string n, .bool en, .slice none 0 0, .slice none 0 0, .slice none 0 0] rfl
           clear hS hlr
           change K _ (setCells _ _ 0 [.string n, .bool en, .slice none 0 0, .slice none 0 0, .slice none 0 0])
           generalize setCells _ _ 0 [.string n, .bool en, .slice none 0 0, .slice none 0 0, .slice none 0 0] = W5 at hB hG ⊢
           have hS := HS.out _ hB
           refine hK.out _ _ (fun _ _ => hS) ?_
           clear hK K
           try simp only [pu]
           refine lateP_done (by kernel_rfl) ?_ _
           go_wp2_with fail
           go_meet
           case rel => exact ⟨_, rfl, hGl, hG, hB⟩
          ·go_simp
           have hG := Box.newB hB 38 [.string ⟨#[]⟩, .bool false, .slice none 0 0, .slice none 0 0, .slice none 0 0]
           have hGl := hB.size
           try simp only [drew_size] at hG hGl
           replace hB := hB.alloc hB.size (.cells #[.string ⟨#[]⟩, .bool false, .slice none 0 0, .slice none 0 0, .slice none 0 0] 38)
           clear hS
           have hS := HS.out _ hB
           refine hK.out _ _ (fun _ _ => hS) ?_
           clear hK K
           try simp only [pu]
           generalize (World.alloc _ (.cells #[.string ⟨#[]⟩, .bool false, .slice none 0 0, .slice none 0 0, .slice none 0 0] 38)) = WW at hB hG hS ⊢
           refine lateP_one (i := 5) rfl (by kernel_rfl) (fun K hK => ?_)
           go_simp
           refine (Htc.out _ hB).mono ?_
           rintro e wn ⟨rfl, hbn⟩
           replace hB := below_via hB hbn hB.size
           replace hG := hG.below hbn hG.lt
           clear hS
           have hS := HS.out _ hB
           refine hK.out _ _ (fun _ _ => hS) ?_
           clear hK K
           try simp only [pu]
           refine ppP 6 ?_
           try simp only [pu]
           refine ppP 7 ?_
           try simp only [pu]
           obtain ⟨r0, r1, r2, r3, r4⟩ := hG.five
           have g0 := hG.frozen 0
           have g1 := hG.frozen 1
           have g2 := hG.frozen 2
           have g3 := hG.frozen 3
           have g4 := hG.frozen 4
           have hlr := hG.lt
           refine lateP_one (i := 9) rfl (by kernel_rfl) (fun K hK => ?_)
           go_simp
           clear r0 r1 r2 r3 r4 g0 g1 g2 g3 g4
           replace hB := below_setCells hGl [.string n, .bool en, .slice none 0 0, .slice none 0 0, .slice none 0 0] 0 _ hB
           replace hG := hG.setCells [.string n, .bool en, .slice none 0 0, .slice none 0 0, .slice none 0 0] rfl
           clear hS hlr
           change K _ (setCells _ _ 0 [.string n, .bool en, .slice none 0 0, .slice none 0 0, .slice none 0 0])
           generalize setCells _ _ 0 [.string n, .bool en, .slice none 0 0, .slice none 0 0, .slice none 0 0] = W5 at hB hG ⊢
           have hS := HS.out _ hB
           refine hK.out _ _ (fun _ _ => hS) ?_
           clear hK K
           try simp only [pu]
           refine lateP_done (by kernel_rfl) ?_ _
           go_wp2_with fail
           go_meet
           case rel => exact ⟨_, rfl, hGl, hG, hB⟩
         case rest =>
         obtain ⟨g19, rfl, hg19, hbt0, hb2⟩ := hcut
         obtain ⟨V2, hV2⟩ : ∃ V, V = wc := ⟨_, rfl⟩
         subst hV2
         have hV12 : V1.heap.size ≤ V2.heap.size := hb2.size
         have hgV2 : g19 < V2.heap.size := hbt0.lt
         have hTU : U.heap.size < V1.heap.size := bT1.lt
         have hs1 : V.heap.size ≤ V1.heap.size := hb1.size
         have HF2 := Lib.hid (fun W' (hW : Below g19 V2 W') => (hb2.trans (hW.mono hg19) : Below V1.heap.size V1 W'))
         have HFV := Lib.hid (fun W' (hW : Below g19 V2 W') => below_via hb1 (HF2.out W' hW) hb1.size)
         obtain ⟨x, hx⟩ : ∃ x, x = typeOf was n := ⟨_, rfl⟩
         obtain ⟨y, hy⟩ : ∃ x, x = typeOf a n := ⟨_, rfl⟩
         obtain ⟨z, hz⟩ : ∃ x, x = typeOf b n := ⟨_, rfl⟩
         have HXYZ := Lib.hid (And.intro hx (And.intro hy hz))
         clear HS Htc et bT1 hb1 hb2 hx hy hz
         go_wp2_with fail
         go_loopw [20, 21] (fun vb i wr => ∃ (k : Nat) (F : List FieldD) (G : List Int) (B' : List FlawD) (vf vg : Value), i = .int .i64 ((k : Int) + 1) ∧ k ≤ 30 ∧ Hid (F = (idsL.take k).flatMap (fieldsAt x y z)) ∧ Hid (G = (idsL.take k).flatMap (goneAt x y z)) ∧ Hid (B' = (idsL.take k).flatMap (badAt x y z n)) ∧
           Hid (F.length ≤ k ∧ G.length ≤ k ∧ B'.length ≤ k) ∧ TB V2.heap.size wr vf vg (.slice none 0 0) vb F G [] B' ∧ Box wr g19 38 [.string n, .bool en, vf, vg, .slice none 0 0] ∧ Below g19 V2 wr) (fun _ i _ => (31 - intOf i).toNat)
         case atStart => exact ⟨0, [], [], [], _, _, rfl, by omega, rfl, rfl, rfl, (show _ ∧ _ by simp), TB.nil _ _, hbt0, Below.refl _ _⟩
         case round =>
          clear hbt0
          obtain ⟨wk, hwk⟩ : ∃ V, V = wr := ⟨_, rfl⟩
          subst hwk
          obtain ⟨k, F, G, B', vf, vg, rfl, hk, hF, hG0, hBd, hlen2, hT, hbt, hbk⟩ := hrel
          have hsk : V2.heap.size ≤ wk.heap.size := hbk.size
          by_cases hlt : k < 30
          ·--[E
           as_aux_lemma =>
           have hlt' : (k : Int) + 1 ≤ 30 := by omega
           have hcf := HCH.out 102 ((k : Int) + 1)
           have hcg := HCH.out 103 ((k : Int) + 1)
           have f1 := HFR.out 102 ((k : Int) + 1) (.inr (.inl rfl))
           have f2 := HFR.out 103 ((k : Int) + 1) (.inr (.inr (.inl rfl)))
           obtain ⟨pf, hpf⟩ : ∃ p, p = ptrF (w.heap.size + 1) (w.heap.size + 1 + 1) (pickF (toldA 102 was n ((k : Int) + 1)) (toldA 102 a n ((k : Int) + 1)) (toldA 102 b n ((k : Int) + 1))) := ⟨_, rfl⟩
           obtain ⟨pg, hpg⟩ : ∃ p, p = ptrF (w.heap.size + 1) (w.heap.size + 1 + 1) (pickF (toldA 103 was n ((k : Int) + 1)) (toldA 103 a n ((k : Int) + 1)) (toldA 103 b n ((k : Int) + 1))) := ⟨_, rfl⟩
           rw [← hpf] at hcf f1
           rw [← hpg] at hcg f2
           have Hf1 := Lib.hid f1
           have Hf2 := Lib.hid f2
           clear hpf hpg f1 f2
           go_wp2_with fail
           refine (Hf1.out wk (HFV.out wk hbk)).mono ?_
           rintro e w3 ⟨rfl, hb3⟩
           have hbk3 := hbk.trans (hb3.mono (by go_light; omega))
           have hT3 := hT.below hb3
           have hbt3 := hbt.below hb3 hbt.lt
           clear hT hbt
           go_wp2_with fail
           refine (Hf2.out w3 (HFV.out w3 hbk3)).mono ?_
           rintro e w4 ⟨rfl, hb4⟩
           have hs3 : wk.heap.size ≤ w3.heap.size := hb3.size
           have hs4 : w3.heap.size ≤ w4.heap.size := hb4.size
           have hbk4 := hbk3.trans (hb4.mono (by go_light; omega))
           have hT4 := hT3.below hb4
           have hbt4 := hbt3.below hb4 hbt3.lt
           clear hT3 hbt3 hbk3 hb3 hb4 hbk Hf1 Hf2
           have hgt : (gT x y z ((k : Int) + 1)).2 = true := three_gone x y z _
           have hfs : threeF (stA 102 was n ((k : Int) + 1)) (stA 102 a n ((k : Int) + 1)) (stA 102 b n ((k : Int) + 1)) = fT x y z ((k : Int) + 1) := by rw [HXYZ.out.1, HXYZ.out.2.1, HXYZ.out.2.2]; rfl
           have hgs : threeF (stA 103 was n ((k : Int) + 1)) (stA 103 a n ((k : Int) + 1)) (stA 103 b n ((k : Int) + 1)) = gT x y z ((k : Int) + 1) := by rw [HXYZ.out.1, HXYZ.out.2.1, HXYZ.out.2.2]; rfl
           rw [hfs] at hcf
           rw [hgs] at hcg
           clear hfs hgs
           rcases hcf with ⟨rfl, hkf⟩ | ⟨ghf, hf, hghf, rfl, hkf⟩
           ·obtain ⟨e1, e2, e3⟩ := at_bad (x := x) (y := y) (z := z) (name := n) (id := (k : Int) + 1) (s1 := (fT x y z ((k : Int) + 1)).1) (ok1 := (fT x y z ((k : Int) + 1)).2) (s2 := (gT x y z ((k : Int) + 1)).1) (ok2 := (gT x y z ((k : Int) + 1)).2) rfl rfl (by rw [hkf]; rfl)
            have HF := Lib.hid (show F = (idsL.take (k + 1)).flatMap (fieldsAt x y z) by rw [idsL_step _ hlt, e1, List.append_nil]; exact hF.out)
            have HG := Lib.hid (show G = (idsL.take (k + 1)).flatMap (goneAt x y z) by rw [idsL_step _ hlt, e2, List.append_nil]; exact hG0.out)
            have HBd := Lib.hid (show B' ++ [⟨n, (k : Int) + 1, 0⟩] = (idsL.take (k + 1)).flatMap (badAt x y z n) by rw [idsL_step _ hlt, e3, ← hBd.out])
            have hlF : F.length ≤ k := hlen2.out.1
            have hlG : G.length ≤ k := hlen2.out.2.1
            have hlB : B'.length ≤ k := hlen2.out.2.2
            have hT := hT4
            have hbt := hbt4
            have hbk := hbk4
            clear hF hG0 hBd e1 e2 e3 hlen2 hkf hcg hgt hT4 hbt4 hbk4
            obtain ⟨Sb, cb, rfl, hcb⟩ := hT.b.form
            have s0 : World.cell? w4 ⟨U.heap.size, 0, none⟩ = some (.string n) := (HVV.out w4 (HFV.out w4 hbk)).2.cell 0
            have sl := (HVV.out w4 (HFV.out w4 hbk)).2.lt
            go_wp2_with (at_builtin; go_must (refine wl_append _ rfl (.tmp 125) (.tmp 129) rfl sl_flaws RFlaw.fair rfl rfl (hT.b.alloc RFlaw.fair _) (Src.one (es := [.string n, .int .i64 ((k : Int) + 1), .int .i64 0]) (y := FlawD.mk n ((k : Int) + 1) 0) rfl (Ones.of_all rfl) rfl (Lies.newAt (by first | rfl | simp [World.setCell]))) (NoT.lt _) ?_ ?_ ?_))
            ·go_light; (try simp only [List.length_cons, List.length_nil]); omega
            ·go_light; simp only [World.size_alloc]; omega
            ·intro v6 w6 ho6 hg6 hv6
             have hT6 := (hT.alloc _).pushB hg6 ho6
             have hbt6 := (hbt.alloc _).grownR (hT.b.alloc RFlaw.fair _) (.inl (by go_light; omega)) hg6
             have hb6 := below_grown (hbk.alloc (by go_light; omega) (.cells #[.string n, .int .i64 ((k : Int) + 1), .int .i64 0] 50)) hg6 (by go_light; simp only [World.size_alloc]; omega) (fun g' h => by have := (hT.b.lt h).1; go_light; omega)
             go_wp2_with fail
             go_roundw
             case rel => exact ⟨k + 1, F, G, B' ++ [⟨n, (k : Int) + 1, 0⟩], _, _, by go_num, by omega, HF, HG, HBd, (show _ ∧ _ ∧ _ by refine ⟨?_, ?_, ?_⟩ <;> (try simp only [List.length_append, List.length_cons, List.length_nil]) <;> omega), hT6, hbt6, hb6⟩
             case measure => go_light; simp [intOf]; omega
           ·rcases hcg with ⟨_, h0⟩ | ⟨ghg, hgb, hghg, rfl, hkg⟩
            ·rw [h0] at hgt; cases hgt
            obtain ⟨hgof, Af, cf', hhf9⟩ := HBK.out ghf hf hghf
            have hhf := fun W' (hW : Below V.heap.size V W') => hhf9 W' (HVV.out W' hW).1
            obtain ⟨hgog, Ag, cg', hhg9⟩ := HBK.out ghg hgb hghg
            have hhg := fun W' (hW : Below V.heap.size V W') => hhg9 W' (HVV.out W' hW).1
            have Hhf := Lib.hid (fun W' (hW : Below g19 V2 W') => hhf W' (HFV.out W' hW))
            have Hhg := Lib.hid (fun W' (hW : Below g19 V2 W') => hhg W' (HFV.out W' hW))
            have hs40 : V2.heap.size ≤ w4.heap.size := by go_light; omega
            have H4 := Lib.hid (fun W' (hW : Below w4.heap.size w4 W') => (hbk4.trans (hW.mono (by omega)) : Below g19 V2 W'))
            obtain ⟨s1, hs1e⟩ : ∃ s, s = fieldS (typeOf hf n) ((k : Int) + 1) := ⟨_, rfl⟩
            obtain ⟨s2, hs2e⟩ : ∃ s, s = goneS (typeOf hgb n) ((k : Int) + 1) := ⟨_, rfl⟩
            have Hr1 := Lib.hid (show (s1, true) = fT x y z ((k : Int) + 1) by rw [hkf, hs1e]; rfl)
            have Hr2 := Lib.hid (show (s2, true) = gT x y z ((k : Int) + 1) by rw [hkg, hs2e]; rfl)
            obtain ⟨tf, htf⟩ : ∃ s, s = toldA 102 hf n ((k : Int) + 1) := ⟨_, rfl⟩
            obtain ⟨tg, htg⟩ : ∃ s, s = toldA 103 hgb n ((k : Int) + 1) := ⟨_, rfl⟩
            have etf : (tf.toList == ([] : List UInt8)) = !s1.there := by
             have h1 := toldA_there (c := 102) hgof n ((k : Int) + 1)
             rw [nil_eq, htf, Bool.eq_iff_iff, decide_eq_true_eq, h1, hs1e]
             show (fieldS _ _).there = false ↔ (!(fieldS _ _).there) = true
             cases (fieldS (typeOf hf n) ((k : Int) + 1)).there <;> simp
            have etg : (tg.toList == ([] : List UInt8)) = !s2.there := by
             have h1 := toldA_there (c := 103) hgog n ((k : Int) + 1)
             rw [nil_eq, htg, Bool.eq_iff_iff, decide_eq_true_eq, h1, hs2e]
             show (goneS _ _).there = false ↔ (!(goneS _ _).there) = true
             cases (goneS (typeOf hgb n) ((k : Int) + 1)).there <;> simp
            have Htf := Lib.hid (fun W' (hW : Below w4.heap.size w4 W') => (htf ▸ told_any (Old w) _ hf n 102 ((k : Int) + 1) W' (Hhf.out W' (H4.out W' hW)).2 (.inr (.inl rfl)) (good_fieldsOk hgof) : Calls Tryz.prog 18 #[.agg #[.slice Af hf.length cf'], .string n, .int .u8 102, .int .i64 ((k : Int) + 1)] W' (Ret W' (.string tf))))
            have Htg := Lib.hid (fun W' (hW : Below w4.heap.size w4 W') => (htg ▸ told_any (Old w) _ hgb n 103 ((k : Int) + 1) W' (Hhg.out W' (H4.out W' hW)).2 (.inr (.inr (.inl rfl))) (good_fieldsOk hgog) : Calls Tryz.prog 18 #[.agg #[.slice Ag hgb.length cg'], .string n, .int .u8 103, .int .i64 ((k : Int) + 1)] W' (Ret W' (.string tg))))
            have Hs1 := Lib.hid hs1e
            have HS := Lib.hid (fun W' (hW : Below w4.heap.size w4 W') => (show (fun W' => World.cell? W' ⟨U.heap.size, 0, none⟩ = some (.string n) ∧ World.cell? W' ⟨ghf, 0, none⟩ = some (.slice Af hf.length cf') ∧ World.cell? W' ⟨ghg, 0, none⟩ = some (.slice Ag hgb.length cg')) W' from
             ⟨(HVV.out W' (HFV.out W' (H4.out W' hW))).2.cell 0, (Hhf.out W' (H4.out W' hW)).1.cell 0, (Hhg.out W' (H4.out W' hW)).1.cell 0⟩))
            obtain ⟨th1, en1, ⟨a1, a2, a3, a4, a5⟩, it1⟩ := s1
            obtain ⟨th2, en2, fl2, it2⟩ := s2
            dsimp only at etf etg
            clear hs1e hs2e htf htg hkf hkg hgt hhf hhg hhf9 hhg9 hghf hghg hgof hgog
            go_upto_region 31 with fail
            go_cut [24, 25] from 131 to 138 (fun p s W1 => ∃ g, p = .pointer (some ⟨g, 0, none⟩) ∧ s = .bool th1 ∧ w4.heap.size ≤ g ∧ Box W1 g 43 [.int .i64 0, .string ⟨#[]⟩, .string ⟨#[]⟩, .int .i64 0, .int .i64 0] ∧ Below w4.heap.size w4 W1)
            case first =>
             as_aux_lemma =>
             have hB := below_drew (Below.here w4)
             have hS := HS.out _ hB
             refine lateP_start (fun W' => World.cell? W' ⟨U.heap.size, 0, none⟩ = some (.string n) ∧ World.cell? W' ⟨ghf, 0, none⟩ = some (.slice Af hf.length cf') ∧ World.cell? W' ⟨ghg, 0, none⟩ = some (.slice Ag hgb.length cg')) (fun _ => true) (by kernel_rfl) ?_
             generalize w4.drew = Wb at hB hS ⊢
             refine ppP 0 ?_
             try simp only [pu]
             refine ppP 1 ?_
             try simp only [pu]
             refine ppP 2 ?_
             try simp only [pu]
             refine tkP 3 hS ?_
             try simp only [pu]
             refine tkP 4 hS ?_
             try simp only [pu]
             refine ppP 5 ?_
             try simp only [pu]
             refine lateP_two (i := 6) (j := 8) rfl rfl (by kernel_rfl) (fun K hK => ?_) (fun K hK => ?_)
             ·go_simp
              refine (Htf.out _ hB).mono ?_
              rintro e wn ⟨rfl, hbn⟩
              replace hB := below_via hB hbn hB.size
              clear hS
              have hS := HS.out _ hB
              refine hK.out _ _ (fun _ _ => hS) ?_
              clear hK K
              try simp only [pu]
              refine ppP 7 ?_
              try simp only [pu]
              refine lateP_one (i := 8) rfl (by kernel_rfl) (fun K hK => ?_)
              go_simp
              have hG := Box.newB hB 43 [.int .i64 0, .string ⟨#[]⟩, .string ⟨#[]⟩, .int .i64 0, .int .i64 0]
              have hGl := hB.size
              try simp only [drew_size] at hG hGl
              replace hB := hB.alloc hB.size (.cells #[.int .i64 0, .string ⟨#[]⟩, .string ⟨#[]⟩, .int .i64 0, .int .i64 0] 43)
              clear hS
              have hS := HS.out _ hB
              refine hK.out _ _ (fun _ _ => hS) ?_
              clear hK K
              try simp only [pu]
              generalize (World.alloc _ (.cells #[.int .i64 0, .string ⟨#[]⟩, .string ⟨#[]⟩, .int .i64 0, .int .i64 0] 43)) = WW at hB hG hS ⊢
              obtain ⟨r0, r1, r2, r3, r4⟩ := hG.five
              have g0 := hG.frozen 0
              have g1 := hG.frozen 1
              have g2 := hG.frozen 2
              have g3 := hG.frozen 3
              have g4 := hG.frozen 4
              have hlr := hG.lt
              refine lateP_one (i := 9) rfl (by kernel_rfl) (fun K hK => ?_)
              go_simp
              clear r0 r1 r2 r3 r4 g0 g1 g2 g3 g4
              replace hB := below_setCells hGl [.int .i64 0, .string ⟨#[]⟩, .string ⟨#[]⟩, .int .i64 0, .int .i64 0] 0 _ hB
              replace hG := hG.setCells [.int .i64 0, .string ⟨#[]⟩, .string ⟨#[]⟩, .int .i64 0, .int .i64 0] rfl
              clear hS hlr
              change K _ (setCells _ _ 0 [.int .i64 0, .string ⟨#[]⟩, .string ⟨#[]⟩, .int .i64 0, .int .i64 0])
              generalize setCells _ _ 0 [.int .i64 0, .string ⟨#[]⟩, .string ⟨#[]⟩, .int .i64 0, .int .i64 0] = W5 at hB hG ⊢
              have hS := HS.out _ hB
              refine hK.out _ _ (fun _ _ => hS) ?_
              clear hK K
              try simp only [pu]
              refine ppP 10 ?_
              try simp only [pu]
              refine lateP_done (by kernel_rfl) ?_ _
              go_wp2_with fail
              go_meet
              case rel => exact ⟨_, rfl, rfl, hGl, hG, hB⟩
             ·go_simp
              have hG := Box.newB hB 43 [.int .i64 0, .string ⟨#[]⟩, .string ⟨#[]⟩, .int .i64 0, .int .i64 0]
              have hGl := hB.size
              try simp only [drew_size] at hG hGl
              replace hB := hB.alloc hB.size (.cells #[.int .i64 0, .string ⟨#[]⟩, .string ⟨#[]⟩, .int .i64 0, .int .i64 0] 43)
              clear hS
              have hS := HS.out _ hB
              refine hK.out _ _ (fun _ _ => hS) ?_
              clear hK K
              try simp only [pu]
              generalize (World.alloc _ (.cells #[.int .i64 0, .string ⟨#[]⟩, .string ⟨#[]⟩, .int .i64 0, .int .i64 0] 43)) = WW at hB hG hS ⊢
              refine lateP_one (i := 6) rfl (by kernel_rfl) (fun K hK => ?_)
              go_simp
              refine (Htf.out _ hB).mono ?_
              rintro e wn ⟨rfl, hbn⟩
              replace hB := below_via hB hbn hB.size
              replace hG := hG.below hbn hG.lt
              clear hS
              have hS := HS.out _ hB
              refine hK.out _ _ (fun _ _ => hS) ?_
              clear hK K
              try simp only [pu]
              refine ppP 7 ?_
              try simp only [pu]
              obtain ⟨r0, r1, r2, r3, r4⟩ := hG.five
              have g0 := hG.frozen 0
              have g1 := hG.frozen 1
              have g2 := hG.frozen 2
              have g3 := hG.frozen 3
              have g4 := hG.frozen 4
              have hlr := hG.lt
              refine lateP_one (i := 9) rfl (by kernel_rfl) (fun K hK => ?_)
              go_simp
              clear r0 r1 r2 r3 r4 g0 g1 g2 g3 g4
              replace hB := below_setCells hGl [.int .i64 0, .string ⟨#[]⟩, .string ⟨#[]⟩, .int .i64 0, .int .i64 0] 0 _ hB
              replace hG := hG.setCells [.int .i64 0, .string ⟨#[]⟩, .string ⟨#[]⟩, .int .i64 0, .int .i64 0] rfl
              clear hS hlr
              change K _ (setCells _ _ 0 [.int .i64 0, .string ⟨#[]⟩, .string ⟨#[]⟩, .int .i64 0, .int .i64 0])
              generalize setCells _ _ 0 [.int .i64 0, .string ⟨#[]⟩, .string ⟨#[]⟩, .int .i64 0, .int .i64 0] = W5 at hB hG ⊢
              have hS := HS.out _ hB
              refine hK.out _ _ (fun _ _ => hS) ?_
              clear hK K
              try simp only [pu]
              refine ppP 10 ?_
              try simp only [pu]
              refine lateP_done (by kernel_rfl) ?_ _
              go_wp2_with fail
              go_meet
              case rel => exact ⟨_, rfl, rfl, hGl, hG, hB⟩
            case rest =>
            obtain ⟨g24, rfl, rfl, hg24, hbf, hb5⟩ := hcut
            obtain ⟨w5, hw5⟩ : ∃ V, V = wc := ⟨_, rfl⟩
            subst hw5
            have hs5 : w4.heap.size ≤ w5.heap.size := hb5.size
            have H5 := Lib.hid (fun W' (hW : Below w5.heap.size w5 W') => below_via hb5 hW hb5.size)
            clear etf Htf
            go_upto_if 139 with fail
            go_cut [26, 27] from 140 to 153 (fun _ _ W1 => Box W1 g24 43 [.int .i64 a1, .string a2, .string a3, .int .i64 a4, .int .i64 a5] ∧ Below w4.heap.size w4 W1)
            case first =>
             as_aux_lemma =>
             cases th1 with
             | false =>
              have hz : FieldD.mk a1 a2 a3 a4 a5 = .zero := by
               have h1 := congrArg StateD.field Hs1.out
               have h2 := congrArg StateD.there Hs1.out
               dsimp only [fieldS] at h1 h2
               rw [h1]
               cases hq : fieldOf (typeOf hf n) ((k : Int) + 1) with
               | none => rfl
               | some q => rw [hq] at h2; cases h2
              have q1 := congrArg FieldD.id hz
              have q2 := congrArg FieldD.name hz
              have q3 := congrArg FieldD.type hz
              have q4 := congrArg FieldD.kind hz
              have q5 := congrArg FieldD.rule hz
              dsimp only [FieldD.zero] at q1 q2 q3 q4 q5
              subst q1 q2 q3 q4 q5
              clear hz
              go_wp2_with fail
              go_meet
              case rel => exact ⟨hbf, hb5⟩
             | true =>
              obtain ⟨tf, htf⟩ : ∃ t, t = typeOf hf n := ⟨_, rfl⟩
              have Hty := Lib.hid (fun W' (hW : Below w5.heap.size w5 W') => (typeOf_any (Old w) _ hf n W' (Hhf.out W' (H4.out W' (H5.out W' hW))).2 : Calls Tryz.prog 19 #[.agg #[.slice Af hf.length cf'], .string n] W' (FindPost (Old w) W' (findT hf n))))
              have htg : (findT hf n).getD .zero = tf := htf.symm
              have hf5 : (fieldOf tf ((k : Int) + 1)).getD .zero = ⟨a1, a2, a3, a4, a5⟩ := by
               have h1 := congrArg StateD.field Hs1.out
               dsimp only [fieldS] at h1
               rw [h1, htf]
              have Hf5 := Lib.hid hf5
              have Htg2 := Lib.hid htg
              have HS5 := Lib.hid (fun W' (hW : Below w5.heap.size w5 W') => HS.out W' (H5.out W' hW))
              clear htf htg hf5
              go_upto_region 33 with fail
              go_cut [26, 27] from 140 to 147 (fun p _ W1 => ∃ g cs, p = .pointer (some ⟨g, 0, none⟩) ∧ w5.heap.size ≤ g ∧ Box W1 g 38 cs ∧ RType (Old w) W1 cs tf ∧ Below w5.heap.size w5 W1)
              case first =>
               as_aux_lemma =>
               have hww5 : w.heap.size ≤ w5.heap.size := by go_light; omega
               clear HS H4 H5
               have HS := HS5
               have hB := below_drew (Below.here w5)
               have hS := HS.out _ hB
               refine lateP_start (fun W' => World.cell? W' ⟨U.heap.size, 0, none⟩ = some (.string n) ∧ World.cell? W' ⟨ghf, 0, none⟩ = some (.slice Af hf.length cf') ∧ World.cell? W' ⟨ghg, 0, none⟩ = some (.slice Ag hgb.length cg')) (fun _ => true) (by kernel_rfl) ?_
               generalize w5.drew = Wb at hB hS ⊢
               refine ppP 0 ?_
               try simp only [pu]
               refine ppP 1 ?_
               try simp only [pu]
               refine tkP 2 hS ?_
               try simp only [pu]
               refine tkP 3 hS ?_
               try simp only [pu]
               refine lateP_two (i := 4) (j := 8) rfl rfl (by kernel_rfl) (fun K hK => ?_) (fun K hK => ?_)
               ·go_simp
                refine (Hty.out _ hB).mono ?_
                rintro e wn ⟨cs, rfl, hr, hbn⟩
                rw [Htg2.out] at hr
                obtain ⟨P1, p1, P2, p2, P3, p3, rfl, -, -, -⟩ := hr.parts
                have hrn := RType.fair.below hr hbn
                replace hB := below_via hB hbn hB.size
                clear hS hr
                have hS := HS.out _ hB
                refine hK.out _ _ (fun _ _ => hS) ?_
                clear hK K
                try simp only [pu]
                refine ppP 5 ?_
                try simp only [pu]
                refine ppP 6 ?_
                try simp only [pu]
                refine ppP 7 ?_
                try simp only [pu]
                refine lateP_one (i := 8) rfl (by kernel_rfl) (fun K hK => ?_)
                go_simp
                have hG := Box.newB hB 38 [.string ⟨#[]⟩, .bool false, .slice none 0 0, .slice none 0 0, .slice none 0 0]
                have hGl := hB.size
                try simp only [drew_size] at hG hGl
                replace hrn := RType.fair.keep hrn (Keep.alloc _ _ (.cells #[.string ⟨#[]⟩, .bool false, .slice none 0 0, .slice none 0 0, .slice none 0 0] 38))
                replace hB := hB.alloc hB.size (.cells #[.string ⟨#[]⟩, .bool false, .slice none 0 0, .slice none 0 0, .slice none 0 0] 38)
                clear hS
                have hS := HS.out _ hB
                refine hK.out _ _ (fun _ _ => hS) ?_
                clear hK K
                try simp only [pu]
                generalize (World.alloc _ (.cells #[.string ⟨#[]⟩, .bool false, .slice none 0 0, .slice none 0 0, .slice none 0 0] 38)) = WW at hB hG hS hrn ⊢
                obtain ⟨r0, r1, r2, r3, r4⟩ := hG.five
                have g0 := hG.frozen 0
                have g1 := hG.frozen 1
                have g2 := hG.frozen 2
                have g3 := hG.frozen 3
                have g4 := hG.frozen 4
                have hlr := hG.lt
                refine lateP_one (i := 9) rfl (by kernel_rfl) (fun K hK => ?_)
                go_simp
                clear r0 r1 r2 r3 r4 g0 g1 g2 g3 g4
                replace hB := below_setCells hGl [.string tf.name, .bool tf.enum, .slice P1 tf.fields.length p1, .slice P2 tf.gone.length p2, .slice P3 tf.items.length p3] 0 _ hB
                replace hG := hG.setCells [.string tf.name, .bool tf.enum, .slice P1 tf.fields.length p1, .slice P2 tf.gone.length p2, .slice P3 tf.items.length p3] rfl
                replace hrn := old_set (vs := [.string tf.name, .bool tf.enum, .slice P1 tf.fields.length p1, .slice P2 tf.gone.length p2, .slice P3 tf.items.length p3]) hrn (Nat.le_trans hww5 hGl)
                clear hS hlr
                change K _ (setCells _ _ 0 [.string tf.name, .bool tf.enum, .slice P1 tf.fields.length p1, .slice P2 tf.gone.length p2, .slice P3 tf.items.length p3])
                generalize setCells _ _ 0 [.string tf.name, .bool tf.enum, .slice P1 tf.fields.length p1, .slice P2 tf.gone.length p2, .slice P3 tf.items.length p3] = W5 at hB hG hrn ⊢
                have hS := HS.out _ hB
                refine hK.out _ _ (fun _ _ => hS) ?_
                clear hK K
                try simp only [pu]
                refine ppP 10 ?_
                try simp only [pu]
                refine lateP_done (by kernel_rfl) ?_ _
                go_wp2_with fail
                go_meet
                case rel => exact ⟨_, _, rfl, hGl, hG, hrn, hB⟩
               ·go_simp
                have hG := Box.newB hB 38 [.string ⟨#[]⟩, .bool false, .slice none 0 0, .slice none 0 0, .slice none 0 0]
                have hGl := hB.size
                try simp only [drew_size] at hG hGl
                replace hB := hB.alloc hB.size (.cells #[.string ⟨#[]⟩, .bool false, .slice none 0 0, .slice none 0 0, .slice none 0 0] 38)
                clear hS
                have hS := HS.out _ hB
                refine hK.out _ _ (fun _ _ => hS) ?_
                clear hK K
                try simp only [pu]
                generalize (World.alloc _ (.cells #[.string ⟨#[]⟩, .bool false, .slice none 0 0, .slice none 0 0, .slice none 0 0] 38)) = WW at hB hG hS ⊢
                refine lateP_one (i := 4) rfl (by kernel_rfl) (fun K hK => ?_)
                go_simp
                refine (Hty.out _ hB).mono ?_
                rintro e wn ⟨cs, rfl, hr, hbn⟩
                rw [Htg2.out] at hr
                obtain ⟨P1, p1, P2, p2, P3, p3, rfl, -, -, -⟩ := hr.parts
                have hrn := RType.fair.below hr hbn
                replace hB := below_via hB hbn hB.size
                replace hG := hG.below hbn hG.lt
                clear hS hr
                have hS := HS.out _ hB
                refine hK.out _ _ (fun _ _ => hS) ?_
                clear hK K
                try simp only [pu]
                refine ppP 5 ?_
                try simp only [pu]
                refine ppP 6 ?_
                try simp only [pu]
                refine ppP 7 ?_
                try simp only [pu]
                obtain ⟨r0, r1, r2, r3, r4⟩ := hG.five
                have g0 := hG.frozen 0
                have g1 := hG.frozen 1
                have g2 := hG.frozen 2
                have g3 := hG.frozen 3
                have g4 := hG.frozen 4
                have hlr := hG.lt
                refine lateP_one (i := 9) rfl (by kernel_rfl) (fun K hK => ?_)
                go_simp
                clear r0 r1 r2 r3 r4 g0 g1 g2 g3 g4
                replace hB := below_setCells hGl [.string tf.name, .bool tf.enum, .slice P1 tf.fields.length p1, .slice P2 tf.gone.length p2, .slice P3 tf.items.length p3] 0 _ hB
                replace hG := hG.setCells [.string tf.name, .bool tf.enum, .slice P1 tf.fields.length p1, .slice P2 tf.gone.length p2, .slice P3 tf.items.length p3] rfl
                replace hrn := old_set (vs := [.string tf.name, .bool tf.enum, .slice P1 tf.fields.length p1, .slice P2 tf.gone.length p2, .slice P3 tf.items.length p3]) hrn (Nat.le_trans hww5 hGl)
                clear hS hlr
                change K _ (setCells _ _ 0 [.string tf.name, .bool tf.enum, .slice P1 tf.fields.length p1, .slice P2 tf.gone.length p2, .slice P3 tf.items.length p3])
                generalize setCells _ _ 0 [.string tf.name, .bool tf.enum, .slice P1 tf.fields.length p1, .slice P2 tf.gone.length p2, .slice P3 tf.items.length p3] = W5 at hB hG hrn ⊢
                have hS := HS.out _ hB
                refine hK.out _ _ (fun _ _ => hS) ?_
                clear hK K
                try simp only [pu]
                refine ppP 10 ?_
                try simp only [pu]
                refine lateP_done (by kernel_rfl) ?_ _
                go_wp2_with fail
                go_meet
                case rel => exact ⟨_, _, rfl, hGl, hG, hrn, hB⟩
              case rest =>
              obtain ⟨g26, cs, rfl, hg26, hbT, hrT, hb6⟩ := hcut
              obtain ⟨w6, hw6⟩ : ∃ V, V = wc := ⟨_, rfl⟩
              subst hw6
              obtain ⟨P1, p1, P2, p2, P3, p3, rfl, -, -, -⟩ := hrT.parts
              obtain ⟨q0, q1, q2, q3, q4⟩ := hbT.five
              have ql := hbT.lt
              have Hfi := Lib.hid (fieldIn_any (Old w) _ tf ((k : Int) + 1) w6 hrT)
              have hbf6 := hbf.below hb6 hbf.lt
              have hB6 := H5.out w6 hb6
              clear HS5 Hty hbT hrT hb6 hbf
              go_wp2_with fail
              refine Hfi.out.mono ?_
              rintro e w7 ⟨rfl, hb7⟩
              have hbf7 := hbf6.below hb7 hbf6.lt
              have hB7 := below_via hB6 hb7 hB6.size
              rw [Hf5.out]
              simp only [fieldCells]
              obtain ⟨r0, r1, r2, r3, r4⟩ := hbf7.five
              have g0 := hbf7.frozen 0
              have g1 := hbf7.frozen 1
              have g2 := hbf7.frozen 2
              have g3 := hbf7.frozen 3
              have g4 := hbf7.frozen 4
              have hlr := hbf7.lt
              clear q0 q1 q2 q3 q4 ql hbf6 hB6 hb7 Hfi
              have hR := Lib.hid (And.intro (hbf7.setCells [.int .i64 a1, .string a2, .string a3, .int .i64 a4, .int .i64 a5] rfl) (below_setCells hg24 [.int .i64 a1, .string a2, .string a3, .int .i64 a4, .int .i64 a5] 0 _ hB7))
              go_wp2_with fail
              change Met _ _ (setCells w7 g24 0 [.int .i64 a1, .string a2, .string a3, .int .i64 a4, .int .i64 a5])
              go_meet
              case rel => exact hR.out
            case rest =>
            clear hbf hb5 H5
            obtain ⟨hbf, hb5⟩ := hcut
            obtain ⟨w8, hw8⟩ : ∃ V, V = wc := ⟨_, rfl⟩
            subst hw8
            have H8 := Lib.hid (fun W' (hW : Below w8.heap.size w8 W') => below_via hb5 hW hb5.size)
            go_upto_region 35 with fail
            go_cut [28] from 154 to 164 (fun s W1 => s = .bool th2 ∧ Below w8.heap.size w8 W1)
            case first =>
             as_aux_lemma =>
             have hB := below_drew (Below.here w8)
             have hS := HS.out _ (H8.out _ hB)
             refine lateP_start (fun W' => World.cell? W' ⟨U.heap.size, 0, none⟩ = some (.string n) ∧ World.cell? W' ⟨ghf, 0, none⟩ = some (.slice Af hf.length cf') ∧ World.cell? W' ⟨ghg, 0, none⟩ = some (.slice Ag hgb.length cg')) (fun _ => true) (by kernel_rfl) ?_
             generalize w8.drew = Wb at hB hS ⊢
             refine ppP 0 ?_
             try simp only [pu]
             refine ppP 1 ?_
             try simp only [pu]
             refine ppP 2 ?_
             try simp only [pu]
             refine ppP 3 ?_
             try simp only [pu]
             refine ppP 4 ?_
             try simp only [pu]
             refine tkP 5 hS ?_
             try simp only [pu]
             refine tkP 6 hS ?_
             try simp only [pu]
             refine ppP 7 ?_
             try simp only [pu]
             refine lateP_one (i := 8) rfl (by kernel_rfl) (fun K hK => ?_)
             go_simp
             refine (Htg.out _ (H8.out _ hB)).mono ?_
             rintro e wn ⟨rfl, hbn⟩
             replace hB := below_via hB hbn hB.size
             clear hS
             have hS := HS.out _ (H8.out _ hB)
             refine hK.out _ _ (fun _ _ => hS) ?_
             clear hK K
             try simp only [pu]
             refine ppP 9 ?_
             try simp only [pu]
             refine ppP 10 ?_
             try simp only [pu]
             refine ppP 11 ?_
             try simp only [pu]
             refine lateP_done (by kernel_rfl) ?_ _
             go_wp2_with fail
             go_meet
             case rel => exact ⟨rfl, hB⟩
            case rest =>
            obtain ⟨rfl, hb9'⟩ := hcut
            obtain ⟨w9, hw9⟩ : ∃ V, V = wc := ⟨_, rfl⟩
            subst hw9
            have hbf9 := hbf.below hb9' hbf.lt
            have hb49 := H8.out w9 hb9'
            have hbk := H4.out w9 hb49
            have hT := hT4.below hb49
            have hbt := hbt4.below hb49 hbt4.lt
            have hlF : F.length ≤ k := hlen2.out.1
            have hlG : G.length ≤ k := hlen2.out.2.1
            have hlB : B'.length ≤ k := hlen2.out.2.2
            have hs9 : w4.heap.size ≤ w9.heap.size := hb49.size
            clear hbf hb5 hb9' H8 hb49 HS Htg Hs1 etg H4 Hhf Hhg hT4 hbt4 hbk4 hlen2
            cases th1 with
            | true =>
             cases th2 with
             | true =>
              obtain ⟨e1, e2, e3⟩ := at_bad (name := n) Hr1.out Hr2.out rfl
              have HF := Lib.hid (show F = (idsL.take (k + 1)).flatMap (fieldsAt x y z) by rw [idsL_step _ hlt, e1, List.append_nil]; exact hF.out)
              have HG := Lib.hid (show G = (idsL.take (k + 1)).flatMap (goneAt x y z) by rw [idsL_step _ hlt, e2, List.append_nil]; exact hG0.out)
              have HBd := Lib.hid (show B' ++ [⟨n, (k : Int) + 1, 0⟩] = (idsL.take (k + 1)).flatMap (badAt x y z n) by rw [idsL_step _ hlt, e3, ← hBd.out])
              clear hF hG0 hBd e1 e2 e3 Hr1 Hr2 hbf9
              as_aux_lemma =>
              obtain ⟨Sb, cb, rfl, hcb⟩ := hT.b.form
              have s0 : World.cell? w9 ⟨U.heap.size, 0, none⟩ = some (.string n) := (HVV.out w9 (HFV.out w9 hbk)).2.cell 0
              have sl := (HVV.out w9 (HFV.out w9 hbk)).2.lt
              go_wp2_with (at_builtin; go_must (refine wl_append _ rfl (.tmp 170) (.tmp 174) rfl sl_flaws RFlaw.fair rfl rfl (hT.b.alloc RFlaw.fair _) (Src.one (es := [.string n, .int .i64 ((k : Int) + 1), .int .i64 0]) (y := FlawD.mk n ((k : Int) + 1) 0) rfl (Ones.of_all rfl) rfl (Lies.newAt (by first | rfl | simp [World.setCell]))) (NoT.lt _) ?_ ?_ ?_))
              ·go_light; (try simp only [List.length_cons, List.length_nil]); omega
              ·go_light; simp only [World.size_alloc]; omega
              ·intro v6 w6 ho6 hg6 hv6
               have hT6 := (hT.alloc _).pushB hg6 ho6
               have hbt6 := (hbt.alloc _).grownR (hT.b.alloc RFlaw.fair _) (.inl (by go_light; omega)) hg6
               have hb6 := below_grown (hbk.alloc (by go_light; omega) (.cells #[.string n, .int .i64 ((k : Int) + 1), .int .i64 0] 50)) hg6 (by go_light; simp only [World.size_alloc]; omega) (fun g' h => by have := (hT.b.lt h).1; go_light; omega)
               go_wp2_with fail
               go_roundw
               case rel => exact ⟨k + 1, F, G, B' ++ [⟨n, (k : Int) + 1, 0⟩], _, _, by go_num, by omega, HF, HG, HBd, (show _ ∧ _ ∧ _ by refine ⟨?_, ?_, ?_⟩ <;> (try simp only [List.length_append, List.length_cons, List.length_nil]) <;> omega), hT6, hbt6, hb6⟩
               case measure => go_light; simp [intOf]; omega
             | false =>
              obtain ⟨e1, e2, e3⟩ := at_field (name := n) Hr1.out Hr2.out rfl rfl
              dsimp only at e1
              have HF := Lib.hid (show F ++ [⟨a1, a2, a3, a4, a5⟩] = (idsL.take (k + 1)).flatMap (fieldsAt x y z) by rw [idsL_step _ hlt, e1, ← hF.out])
              have HG := Lib.hid (show G = (idsL.take (k + 1)).flatMap (goneAt x y z) by rw [idsL_step _ hlt, e2, List.append_nil]; exact hG0.out)
              have HBd := Lib.hid (show B' = (idsL.take (k + 1)).flatMap (badAt x y z n) by rw [idsL_step _ hlt, e3, List.append_nil]; exact hBd.out)
              clear hF hG0 hBd e1 e2 e3 Hr1 Hr2
              obtain ⟨Sf, cf, rfl, hcf⟩ := hT.f.form
              obtain ⟨q0, q1, q2, q3, q4⟩ := hbf9.five
              have ql := hbf9.lt
              have t2 : w9.cell? ⟨g19, 2, none⟩ = some (.slice Sf F.length cf) := hbt.cell 2
              have tl := hbt.lt
              as_aux_lemma =>
              go_wp2_with (at_builtin; go_must (refine wl_append _ rfl (.tmp 179) (.tmp 181) rfl sl_fields RField.fair rfl rfl (hT.f.alloc RField.fair _) (Src.one (es := [.int .i64 a1, .string a2, .string a3, .int .i64 a4, .int .i64 a5]) (y := FieldD.mk a1 a2 a3 a4 a5) rfl (Ones.of_all rfl) rfl (Lies.newAt (by first | rfl | simp [World.setCell]))) (NoT.lt _) ?_ ?_ ?_))
              ·go_light; (try simp only [List.length_cons, List.length_nil]); omega
              ·go_light; simp only [World.size_alloc]; omega
              ·intro v6 w6 ho6 hg6 hv6
               obtain ⟨A6, c6, rfl, -⟩ := ho6.form
               simp only [List.length_append, List.length_cons, List.length_nil, Nat.zero_add] at ho6
               have hT6 := (hT.alloc _).pushF hg6 ho6
               have hbt6 := (hbt.alloc _).grownR (hT.f.alloc RField.fair _) (.inl (by go_light; omega)) hg6
               have hb6 := below_grown (hbk.alloc (by go_light; omega) (.cells #[.int .i64 a1, .string a2, .string a3, .int .i64 a4, .int .i64 a5] 43)) hg6 (by go_light; simp only [World.size_alloc]; omega) (fun g' h => by have := (hT.f.lt h).1; go_light; omega)
               clear t2 tl q0 q1 q2 q3 q4 ql hT hbt hbk hbf9
               have t2 : w6.cell? ⟨g19, 2, none⟩ = some (.slice Sf F.length cf) := hbt6.cell 2
               have f2 := hbt6.frozen 2
               have hlt6 := hbt6.lt
               go_wp2_with fail
               go_roundw
               case rel =>
                have hbt7 := hbt6.set_ 2 (.slice A6 (F.length + 1) c6)
                simp only [List.set_cons_zero, List.set_cons_succ] at hbt7
                exact ⟨k + 1, F ++ [⟨a1, a2, a3, a4, a5⟩], G, B', _, _, by go_num, by omega, HF, HG, HBd, (show _ ∧ _ ∧ _ by refine ⟨?_, ?_, ?_⟩ <;> (try simp only [List.length_append, List.length_cons, List.length_nil]) <;> omega), hT6.setCell (p := ⟨g19, 2, none⟩) (.slice A6 (F.length + 1) c6) (by go_light; show g19 < _; omega), hbt7, hb6.setCell (p := ⟨g19, 2, none⟩) (Nat.le_refl _) _⟩
               case measure => go_light; simp [intOf]; omega
            | false =>
             cases th2 with
             | true =>
              obtain ⟨e1, e2, e3⟩ := at_gone (name := n) Hr1.out Hr2.out rfl rfl
              have HF := Lib.hid (show F = (idsL.take (k + 1)).flatMap (fieldsAt x y z) by rw [idsL_step _ hlt, e1, List.append_nil]; exact hF.out)
              have HG := Lib.hid (show G ++ [(k : Int) + 1] = (idsL.take (k + 1)).flatMap (goneAt x y z) by rw [idsL_step _ hlt, e2, ← hG0.out])
              have HBd := Lib.hid (show B' = (idsL.take (k + 1)).flatMap (badAt x y z n) by rw [idsL_step _ hlt, e3, List.append_nil]; exact hBd.out)
              clear hF hG0 hBd e1 e2 e3 Hr1 Hr2 hbf9
              obtain ⟨Sg, cg, rfl, hcg⟩ := hT.g.form
              have t3 : w9.cell? ⟨g19, 3, none⟩ = some (.slice Sg G.length cg) := hbt.cell 3
              have tl := hbt.lt
              as_aux_lemma =>
              go_wp2_with (at_builtin; go_must (refine wl_append _ rfl (.tmp 187) (.tmp 189) rfl sl_ints RInt.fair rfl rfl (hT.g.alloc RInt.fair _) (Src.one (es := [.int .i64 ((k : Int) + 1)]) (y := (k : Int) + 1) rfl (Ones.of_all rfl) rfl (Lies.newAt (by first | rfl | simp [World.setCell]))) (NoT.lt _) ?_ ?_ ?_))
              ·go_light; (try simp only [List.length_cons, List.length_nil]); omega
              ·go_light; simp only [World.size_alloc]; omega
              ·intro v6 w6 ho6 hg6 hv6
               obtain ⟨A6, c6, rfl, -⟩ := ho6.form
               simp only [List.length_append, List.length_cons, List.length_nil, Nat.zero_add] at ho6
               have hT6 := (hT.alloc _).pushG hg6 ho6
               have hbt6 := (hbt.alloc _).grownR (hT.g.alloc RInt.fair _) (.inl (by go_light; omega)) hg6
               have hb6 := below_grown (hbk.alloc (by go_light; omega) (.cells #[.int .i64 ((k : Int) + 1)] 3)) hg6 (by go_light; simp only [World.size_alloc]; omega) (fun g' h => by have := (hT.g.lt h).1; go_light; omega)
               clear t3 tl hT hbt hbk
               have t3 : w6.cell? ⟨g19, 3, none⟩ = some (.slice Sg G.length cg) := hbt6.cell 3
               have f3 := hbt6.frozen 3
               have hlt6 := hbt6.lt
               go_wp2_with fail
               go_roundw
               case rel =>
                have hbt7 := hbt6.set_ 3 (.slice A6 (G.length + 1) c6)
                simp only [List.set_cons_zero, List.set_cons_succ] at hbt7
                exact ⟨k + 1, F, G ++ [(k : Int) + 1], B', _, _, by go_num, by omega, HF, HG, HBd, (show _ ∧ _ ∧ _ by refine ⟨?_, ?_, ?_⟩ <;> (try simp only [List.length_append, List.length_cons, List.length_nil]) <;> omega), hT6.setCell (p := ⟨g19, 3, none⟩) (.slice A6 (G.length + 1) c6) (by go_light; show g19 < _; omega), hbt7, hb6.setCell (p := ⟨g19, 3, none⟩) (Nat.le_refl _) _⟩
               case measure => go_light; simp [intOf]; omega
             | false =>
              obtain ⟨e1, e2, e3⟩ := at_none (name := n) Hr1.out Hr2.out rfl rfl
              have HF := Lib.hid (show F = (idsL.take (k + 1)).flatMap (fieldsAt x y z) by rw [idsL_step _ hlt, e1, List.append_nil]; exact hF.out)
              have HG := Lib.hid (show G = (idsL.take (k + 1)).flatMap (goneAt x y z) by rw [idsL_step _ hlt, e2, List.append_nil]; exact hG0.out)
              have HBd := Lib.hid (show B' = (idsL.take (k + 1)).flatMap (badAt x y z n) by rw [idsL_step _ hlt, e3, List.append_nil]; exact hBd.out)
              clear hF hG0 hBd e1 e2 e3 Hr1 Hr2 hbf9
              go_wp2_with fail
              go_roundw
              case rel => exact ⟨k + 1, F, G, B', _, _, by go_num, by omega, HF, HG, HBd, (show _ ∧ _ ∧ _ by refine ⟨?_, ?_, ?_⟩ <;> omega), hT, hbt, hbk⟩
              case measure => go_light; simp [intOf]; omega
          ·--[J
           as_aux_lemma =>
           have hk30 : k = 30 := by omega
           subst hk30
           have hlt' : ¬ ((30 : Nat) : Int) + 1 ≤ 30 := by omega
           have e30 : idsL.take 30 = idsL := List.take_of_length_le (by rw [idsL_len]; omega)
           have hF2 := hF.out
           have hG2 := hG0.out
           have hB2 := hBd.out
           rw [e30] at hF2 hG2 hB2
           have HF := Lib.hid hF2
           have HG := Lib.hid hG2
           have HBd := Lib.hid hB2
           have hlB : B'.length ≤ 30 := hlen2.out.2.2
           have hlF : F.length ≤ 30 := hlen2.out.1
           have hlG : G.length ≤ 30 := hlen2.out.2.1
           obtain ⟨NN, hNN⟩ : ∃ N, N = numbersF [typeOf was n, typeOf a n, typeOf b n] := ⟨_, rfl⟩
           have hab := numbers_above HG1.out HG2.out HG3.out n
           rw [← hNN] at hab
           have HAb := Lib.hid hab
           have HMI := Lib.hid (fun (p : Nat) (hp : p ≤ NN.length) => (hNN ▸ metI_last (lo := -1099511627777) (fun x hx => (hab x (hNN ▸ hx)).1) (hNN ▸ hp) : metI NN (.int .i64 (lastK (-1099511627777) NN p)) = NN.length - p))
           have HNI := Lib.hid (fun (p : Nat) (hp : p ≤ NN.length) => (hNN ▸ next_number (lo := -1099511627777) (fun x hx => (hab x (hNN ▸ hx)).1) (hNN ▸ hp) : nextF ltO none (some (lastK (-1099511627777) NN p)) (([typeOf was n, typeOf a n, typeOf b n].flatMap fun t => t.items.map (·.n)).map some) = NN[p]?))
           have hNl : NN.length ≤ 300 := by
            rw [hNN]; unfold numbersF
            refine Nat.le_trans (compact_le _) ?_
            rw [sortI_len]
            have := good_items HG1.out n
            have := good_items HG2.out n
            have := good_items HG3.out n
            simp only [List.flatMap_cons, List.flatMap_nil, List.append_nil, List.length_append, List.length_map]
            omega
           have HNN := Lib.hid hNN
           clear hF hG0 hBd hF2 hG2 hB2 hlen2 e30 hNN hab
           go_wp2_with fail
           go_loopw [20, 29] (fun vb s wr => ∃ (p : Nat) (I : List ItemD) (B2 : List FlawD) (vi : Value), s = .int .i64 (lastK (-1099511627777) NN p) ∧ p ≤ NN.length ∧ Hid (I = (NN.take p).flatMap (itemsAt x y z)) ∧ Hid (B2 = B' ++ (NN.take p).flatMap (badIt x y z n)) ∧
             Hid (I.length ≤ p ∧ B2.length ≤ 30 + p) ∧ TB V2.heap.size wr vf vg vi vb F G I B2 ∧ Box wr g19 38 [.string n, .bool en, vf, vg, vi] ∧ Below g19 V2 wr) (fun _ s _ => metI NN s)
           case atStart => exact ⟨0, [], B', _, rfl, by omega, rfl, (show _ = _ by simp), (show _ ∧ _ by refine ⟨by simp, by omega⟩), hT, hbt, hbk⟩
           case round =>
            clear hT hbt hbk hlB
            obtain ⟨wp, hwp⟩ : ∃ V, V = wr := ⟨_, rfl⟩
            subst hwp
            obtain ⟨p, I, B2, vi, rfl, hp, hI, hB2, hlen3, hT, hbt, hbk⟩ := hrel
            have hsp : V2.heap.size ≤ wp.heap.size := hbk.size
            have HP := Lib.hid (fun W' (hW : Below wp.heap.size wp W') => (hbk.trans (hW.mono (by omega)) : Below g19 V2 W'))
            obtain ⟨last, hlast⟩ : ∃ s, s = lastK (-1099511627777) NN p := ⟨_, rfl⟩
            obtain ⟨Gf, hGf⟩ : ∃ F : List Int → Option Int, F = fun l => nextF ltO none (some last) (l.map some) := ⟨_, rfl⟩
            have HG0 := Lib.hid (show Gf [] = none by rw [hGf]; rfl)
            have HGs := Lib.hid (show ∀ l x, Gf (l ++ [x]) = if last < x ∧ (Gf l = none ∨ x < (Gf l).getD 0) then some x else Gf l by rw [hGf]; exact num_step last)
            have HGe := Lib.hid (show Gf ([was, a, b].flatMap fun c => (typeOf c n).items.map (·.n)) = NN[p]? by rw [hGf, hlast]; exact HNI.out p hp)
            have HLa := Lib.hid hlast
            rw [← hlast]
            clear hGf hlast
            have hA := HALL.out wp (HVV.out wp (HFV.out wp hbk)).1
            have hrow := row_three hA.1.1 hA.1.2.1 hA.1.2.2.1
            have c1 := hA.2.1.1.cell 0
            have c2 := hA.2.1.2.1.cell 0
            have c3 := hA.2.1.2.2.1.cell 0
            have l1 := hA.2.1.1.lt
            have l2 := hA.2.1.2.1.lt
            have l3 := hA.2.1.2.2.1.lt
            simp only [List.getElem?_cons_zero] at c1 c2 c3
            have hbW2 := (Below.here wp).alloc (Nat.le_refl _) (.cells #[.slice A1 was.length k1, .slice A2 a.length k2, .slice A3 b.length k3] 24)
            clear hA
            go_wp2_with fail
            generalize wp.heap.size = Y at hrow ⊢
            generalize (World.alloc wp _) = Wc at hrow hbW2 ⊢
            have Hrow := Lib.hid hrow
            clear c1 c2 c3 l1 l2 l3 hrow
            go_loopw [30, 31, 197] (fun c d i wt => ∃ (j : Nat) (m : Option Int), i = .int .i64 j ∧ j ≤ 3 ∧ c = .int .i64 (m.getD 0) ∧ d = .bool m.isSome ∧ Hid (m = Gf (([was, a, b].take j).flatMap fun c => (typeOf c n).items.map (·.n))) ∧ Below Wc.heap.size Wc wt) (fun _ _ i _ => 3 - (intOf i).toNat)
            case atStart => exact ⟨0, none, rfl, by omega, rfl, rfl, HG0.out.symm, Below.here Wc⟩
            case round =>
             obtain ⟨wt, hwt⟩ : ∃ V, V = wr := ⟨_, rfl⟩
             subst hwt
             obtain ⟨j, m, rfl, hj, rfl, rfl, hm, hg⟩ := hrel
             have hpt := below_via hbW2 hg hbW2.size
             by_cases hj3 : j < 3
             ·--[K
              as_aux_lemma =>
              have hr0 := (RSl.fair RBook.fair).below Hrow.out hg
              obtain ⟨es, hle, hre, hce⟩ := hr0.lies (k := j) (by simpa using hj3)
              obtain ⟨bx, hx⟩ : ∃ x, x = [was, a, b][j]'(by simpa using hj3) := ⟨_, rfl⟩
              rw [← hx] at hre
              have hst := flat_take (f := fun c : BookD => (typeOf c n).items.map (·.n)) (l := [was, a, b]) (j := j) (by simpa using hj3)
              rw [← hx] at hst
              have Hst := Lib.hid hst
              have HX := Lib.hid hre
              obtain ⟨Ax, cx, rfl, -⟩ := hre
              have q0 : wt.cell? ⟨Y, j, none⟩ = some (.slice Ax bx.length cx) := by have := hce.at_ 0 rfl; simpa using this
              have qlt := World.block_lt_of_cell? wt _ q0
              have b14 := Box.new wt 24 [.slice Ax bx.length cx]
              have hg4 := hg.alloc hg.size (.cells #[.slice Ax bx.length cx] 24)
              have hpt4 := hpt.alloc hpt.size (.cells #[.slice Ax bx.length cx] 24)
              have hX4 := RBook.fair.keep HX.out (Keep.alloc _ wt (.cells #[.slice Ax bx.length cx] 24))
              have hj3' : (j : Int) < 3 := by omega
              obtain ⟨pre, hpre⟩ : ∃ p : List Int, p = (([was, a, b].take j).flatMap fun c => (typeOf c n).items.map (·.n)) := ⟨_, rfl⟩
              rw [← hpre] at Hst hm
              clear hr0 hce hx hst hpre hg HX hpt
              go_upto_region 47 with fail
              generalize wt.heap.size = X14 at b14 ⊢
              generalize (World.alloc wt _) = Wd at b14 hg4 hpt4 hX4 ⊢
              have d0 := b14.cell 0
              have dl := b14.lt
              simp only [List.getElem?_cons_zero] at d0
              have bN := (HVV.out Wd (HFV.out Wd (HP.out Wd hpt4))).2
              have s0 : Wd.cell? ⟨U.heap.size, 0, none⟩ = some (.string n) := bN.cell 0
              have sl := bN.lt
              have Hty := Lib.hid (typeOf_any _ _ bx n Wd hX4)
              clear q0 qlt b14 hX4 bN
              go_wp2_with fail
              refine Hty.out.mono ?_
              rintro e w5 ⟨cs, rfl, hr, hb5⟩
              obtain ⟨tx, htx⟩ : ∃ t, t = typeOf bx n := ⟨_, rfl⟩
              rw [show (findT bx n).getD .zero = tx from htx.symm] at hr
              obtain ⟨P1, p1, P2, p2, P3, p3, rfl, -, -, -⟩ := hr.parts
              have hg5 := hg4.trans (hb5.mono (by have := hg4.size; go_light; omega))
              have hr5 := RType.fair.below (RType.fair.below hr hb5) ((Below.here w5).alloc (Nat.le_refl _) (.cells #[.string tx.name, .bool tx.enum, .slice P1 tx.fields.length p1, .slice P2 tx.gone.length p2, .slice P3 tx.items.length p3] 38))
              have hg6 := hg5.alloc hg5.size (.cells #[.string tx.name, .bool tx.enum, .slice P1 tx.fields.length p1, .slice P2 tx.gone.length p2, .slice P3 tx.items.length p3] 38)
              have b34 := Box.new w5 38 [.string tx.name, .bool tx.enum, .slice P1 tx.fields.length p1, .slice P2 tx.gone.length p2, .slice P3 tx.items.length p3]
              have hit := hr5.three.2.2
              obtain ⟨_, _, -, -, hib⟩ := hit.form
              have HIt := Lib.hid hit
              have Htx := Lib.hid htx
              clear d0 dl s0 sl hr hb5 hg4 hg5 hr5 hpt4 Hty hit htx
              go_upto_region 48 with fail
              generalize w5.heap.size = X34 at b34 ⊢
              generalize (World.alloc w5 _) = We at b34 hg6 HIt ⊢
              have d4 : We.cell? ⟨X34, 4, none⟩ = some (.slice P3 tx.items.length p3) := b34.cell 4
              have dl := b34.lt
              clear b34
              go_wp2_with fail
              clear d4 dl
              go_loopw [30, 31, 210] (fun c d i wu => ∃ (i' : Nat) (m' : Option Int), i = .int .i64 i' ∧ i' ≤ tx.items.length ∧ c = .int .i64 (m'.getD 0) ∧ d = .bool m'.isSome ∧ Hid (m' = Gf (pre ++ (tx.items.take i').map (·.n))) ∧ Below We.heap.size We wu) (fun _ _ i _ => tx.items.length - (intOf i).toNat)
              case atStart => exact ⟨0, m, rfl, by omega, rfl, rfl, (show _ = _ by rw [List.take_zero, List.map_nil, List.append_nil]; exact hm.out), Below.here We⟩
              case round =>
               clear hm
               obtain ⟨wu, hwu⟩ : ∃ V, V = wr := ⟨_, rfl⟩
               subst hwu
               obtain ⟨i', m', rfl, hi, rfl, rfl, hm, hgu⟩ := hrel
               by_cases hil : i' < tx.items.length
               ·--[L
                as_aux_lemma =>
                obtain ⟨g, o, es, hA, hS, hgl, -, hre, hc⟩ := ((RSl.fair RItem.fair).below HIt.out hgu).at_ hil
                obtain ⟨it, hit⟩ : ∃ t, t = tx.items[i'] := ⟨_, rfl⟩
                rw [← hit] at hre
                obtain rfl : es = itemCells it := hre
                have e1 : pre ++ (tx.items.take (i' + 1)).map (·.n) = (pre ++ (tx.items.take i').map (·.n)) ++ [it.n] := by rw [List.take_succ_eq_append_getElem hil, ← hit]; simp
                have HF1 := Lib.hid (show Gf (pre ++ (tx.items.take (i' + 1)).map (·.n)) = if last < it.n ∧ (m' = none ∨ it.n < m'.getD 0) then some it.n else m' by rw [e1, HGs.out, ← hm.out])
                obtain ⟨xn, xi⟩ := it
                dsimp only at HF1
                have q0 : wu.cell? ⟨g, o + i' * 2, none⟩ = some (.string xn) := hc.at_ 0 rfl
                have q1 : wu.cell? ⟨g, o + i' * 2 + 1, none⟩ = some (.int .i64 xi) := hc.at_ 1 rfl
                have hgv := hgu.alloc hgu.size (.cells #[.string xn, .int .i64 xi] 62)
                have hil' : (i' : Int) < (tx.items.length : Int) := by omega
                subst hA
                clear hS hc hit e1 hm hgu
                by_cases h1 : last < xi
                ·cases m' with
                 | none =>
                  have HF2 := Lib.hid (show some xi = Gf (pre ++ (tx.items.take (i' + 1)).map (·.n)) by rw [HF1.out, if_pos ⟨h1, .inl rfl⟩])
                  clear HF1
                  simp only [Option.getD_none, Option.isSome_none]
                  go_wp2_with fail
                  go_roundw
                  case rel => exact ⟨i' + 1, some xi, by go_num, by go_light; omega, rfl, rfl, HF2, hgv⟩
                  case measure => go_light; simp [intOf]; omega
                 | some cu =>
                  simp only [Option.getD_some, Option.isSome_some]
                  by_cases h2 : xi < cu
                  ·have HF2 := Lib.hid (show some xi = Gf (pre ++ (tx.items.take (i' + 1)).map (·.n)) by rw [HF1.out, if_pos ⟨h1, .inr h2⟩])
                   clear HF1
                   go_wp2_with fail
                   go_roundw
                   case rel => exact ⟨i' + 1, some xi, by go_num, by go_light; omega, rfl, rfl, HF2, hgv⟩
                   case measure => go_light; simp [intOf]; omega
                  ·have HF2 := Lib.hid (show some cu = Gf (pre ++ (tx.items.take (i' + 1)).map (·.n)) by rw [HF1.out, if_neg (by rintro ⟨_, q | q⟩; cases q; exact h2 q)])
                   clear HF1
                   go_wp2_with fail
                   go_roundw
                   case rel => exact ⟨i' + 1, some cu, by go_num, by go_light; omega, rfl, rfl, HF2, hgv⟩
                   case measure => go_light; simp [intOf]; omega
                ·have HF2 := Lib.hid (show m' = Gf (pre ++ (tx.items.take (i' + 1)).map (·.n)) by rw [HF1.out, if_neg (fun q => h1 q.1)])
                 clear HF1
                 go_wp2_with fail
                 go_roundw
                 case rel => exact ⟨i' + 1, m', by go_num, by go_light; omega, rfl, rfl, HF2, hgv⟩
                 case measure => go_light; simp [intOf]; omega
               ·have hil' : ¬ (i' : Int) < (tx.items.length : Int) := by omega
                have e1 : m' = Gf (([was, a, b].take (j + 1)).flatMap fun c => (typeOf c n).items.map (·.n)) := by rw [hm.out, Hst.out, List.take_of_length_le (by omega), Htx.out]
                have E1 := Lib.hid e1
                have hg7 := hg6.trans (hgu.mono (by have := hg6.size; go_light; omega))
                clear hm e1
                go_wp2_with fail
                go_roundw
                case rel => exact ⟨j + 1, m', by go_num, by go_light; omega, rfl, rfl, E1, hg7⟩
                case measure => go_light; simp [intOf]; omega
             ·have hj3' : ¬ (j : Int) < 3 := by omega
              have e1 : (([was, a, b].take j).flatMap fun c => (typeOf c n).items.map (·.n)) = [was, a, b].flatMap fun c => (typeOf c n).items.map (·.n) := by rw [List.take_of_length_le (by simp; omega)]
              have hm2 := hm.out
              rw [e1, HGe.out] at hm2
              have hT1 := hT.below hpt
              have hbt1 := hbt.below hpt hbt.lt
              have hbk1 := HP.out wt hpt
              clear e1 hm HGe HGs HG0 Hrow hg hbW2 hT hbt hbk
              by_cases hpl : p < NN.length
              ·--[M
               as_aux_lemma =>
               rw [List.getElem?_eq_getElem hpl] at hm2
               obtain ⟨nx, hnx⟩ : ∃ v, v = NN[p] := ⟨_, rfl⟩
               rw [← hnx] at hm2
               subst hm2
               simp only [Option.getD_some, Option.isSome_some]
               have hst1 := take_step NN (itemsAt x y z) hpl
               have hst2 := take_step NN (badIt x y z n) hpl
               rw [← hnx] at hst1 hst2
               have hln : lastK (-1099511627777) NN (p + 1) = nx := by
                unfold lastK
                rw [if_neg (by omega), Nat.add_sub_cancel, List.getD_eq_getElem?_getD, List.getElem?_eq_getElem hpl, Option.getD_some, hnx]
               have HLn := Lib.hid hln
               have HMs2 := Lib.hid (show metI NN (.int .i64 nx) < metI NN (.int .i64 last) by rw [HLa.out, HMI.out p hp, ← hln, HMI.out (p + 1) hpl]; omega)
               have hci := HCH.out 105 nx
               have f1 := HFR.out 105 nx (.inr (.inr (.inr rfl)))
               obtain ⟨pi, hpi⟩ : ∃ p, p = ptrF (w.heap.size + 1) (w.heap.size + 1 + 1) (pickF (toldA 105 was n nx) (toldA 105 a n nx) (toldA 105 b n nx)) := ⟨_, rfl⟩
               rw [← hpi] at hci f1
               have his : threeF (stA 105 was n nx) (stA 105 a n nx) (stA 105 b n nx) = iT x y z nx := by rw [HXYZ.out.1, HXYZ.out.2.1, HXYZ.out.2.2]; rfl
               rw [his] at hci
               have Hf1 := Lib.hid f1
               have Hst1 := Lib.hid hst1
               have Hst2 := Lib.hid hst2
               have hlI : I.length ≤ p := hlen3.out.1
               have hlB : B2.length ≤ 30 + p := hlen3.out.2
               clear hpi f1 hln his hst1 hst2 hnx hlen3
               go_wp2_with fail
               refine (Hf1.out wt (HFV.out wt hbk1)).mono ?_
               rintro e w3 ⟨rfl, hb3⟩
               have hs3 : wp.heap.size ≤ w3.heap.size := by have h1 := hpt.size; have h2 := hb3.size; go_light; omega
               have hbk := hbk1.trans (hb3.mono (by have := hpt.size; go_light; omega))
               have hT := hT1.below hb3
               have hbt := hbt1.below hb3 hbt1.lt
               clear hT1 hbt1 hbk1 hb3 hpt Hf1 HP
               rcases hci with ⟨rfl, hk0⟩ | ⟨ghi, hi', hghi, rfl, hk0⟩
               ·obtain ⟨e1, e2⟩ := it_bad (x := x) (y := y) (z := z) (name := n) (id := nx) (s1 := (iT x y z nx).1) (by rw [← hk0])
                have HI := Lib.hid (show I = (NN.take (p + 1)).flatMap (itemsAt x y z) by rw [Hst1.out, e1, List.append_nil]; exact hI.out)
                have HB := Lib.hid (show B2 ++ [⟨n, nx, 0⟩] = B' ++ (NN.take (p + 1)).flatMap (badIt x y z n) by rw [Hst2.out, e2, ← List.append_assoc, ← hB2.out])
                clear hI hB2 e1 e2 hk0
                obtain ⟨Sb, cb, rfl, hcb⟩ := hT.b.form
                have s0 : World.cell? w3 ⟨U.heap.size, 0, none⟩ = some (.string n) := (HVV.out w3 (HFV.out w3 hbk)).2.cell 0
                have sl := (HVV.out w3 (HFV.out w3 hbk)).2.lt
                go_wp2_with (at_builtin; go_must (refine wl_append _ rfl (.tmp 240) (.tmp 244) rfl sl_flaws RFlaw.fair rfl rfl (hT.b.alloc RFlaw.fair _) (Src.one (es := [.string n, .int .i64 nx, .int .i64 0]) (y := FlawD.mk n nx 0) rfl (Ones.of_all rfl) rfl (Lies.newAt (by first | rfl | simp [World.setCell]))) (NoT.lt _) ?_ ?_ ?_))
                ·go_light; (try simp only [List.length_cons, List.length_nil]); omega
                ·go_light; simp only [World.size_alloc]; omega
                ·intro v6 w6 ho6 hg6 hv6
                 have hT6 := (hT.alloc _).pushB hg6 ho6
                 have hbt6 := (hbt.alloc _).grownR (hT.b.alloc RFlaw.fair _) (.inl (by go_light; omega)) hg6
                 have hb6 := below_grown (hbk.alloc (by go_light; omega) (.cells #[.string n, .int .i64 nx, .int .i64 0] 50)) hg6 (by go_light; simp only [World.size_alloc]; omega) (fun g' h => by have := (hT.b.lt h).1; go_light; omega)
                 go_wp2_with fail
                 go_roundw
                 case rel => exact ⟨p + 1, I, B2 ++ [⟨n, nx, 0⟩], _, by rw [HLn.out], hpl, HI, HB, (show _ ∧ _ by refine ⟨?_, ?_⟩ <;> (try simp only [List.length_append, List.length_cons, List.length_nil]) <;> omega), hT6, hbt6, hb6⟩
                 case measure => exact HMs2.out
               ·obtain ⟨hgoi, Ai, ci, hhi9⟩ := HBK.out ghi hi' hghi
                have hhi := fun W' (hW : Below V.heap.size V W') => hhi9 W' (HVV.out W' hW).1
                obtain ⟨s1, hs1e⟩ : ∃ s, s = itemS (typeOf hi' n) nx := ⟨_, rfl⟩
                have Hr1 := Lib.hid (show (s1, true) = iT x y z nx by rw [hk0, hs1e]; rfl)
                have hti : toldA 105 hi' n nx = s1.item := by rw [hs1e]; exact toldI_item _ _
                have eti : (s1.item.toList == ([] : List UInt8)) = !s1.there := by
                 have h1 := toldA_there (c := 105) hgoi n nx
                 rw [hti] at h1
                 rw [nil_eq, Bool.eq_iff_iff, decide_eq_true_eq, h1, hs1e]
                 show (itemS _ _).there = false ↔ (!(itemS _ _).there) = true
                 cases (itemS (typeOf hi' n) nx).there <;> simp
                have H3 := Lib.hid (fun W' (hW : Below w3.heap.size w3 W') => (hbk.trans (hW.mono (by go_light; omega)) : Below g19 V2 W'))
                have Hti := Lib.hid (fun W' (hW : Below w3.heap.size w3 W') => (hti ▸ told_any (Old w) _ hi' n 105 nx W' (hhi W' (HFV.out W' (H3.out W' hW))).2 (.inr (.inr (.inr rfl))) (good_fieldsOk hgoi) : Calls Tryz.prog 18 #[.agg #[.slice Ai hi'.length ci], .string n, .int .u8 105, .int .i64 nx] W' (Ret W' (.string s1.item))))
                have HS := Lib.hid (fun W' (hW : Below w3.heap.size w3 W') => (show (fun W' => World.cell? W' ⟨U.heap.size, 0, none⟩ = some (.string n) ∧ World.cell? W' ⟨ghi, 0, none⟩ = some (.slice Ai hi'.length ci)) W' from
                 ⟨(HVV.out W' (HFV.out W' (H3.out W' hW))).2.cell 0, (hhi W' (HFV.out W' (H3.out W' hW))).1.cell 0⟩))
                obtain ⟨th1, en1, fl1, si⟩ := s1
                dsimp only at eti Hti
                clear hs1e hti hk0 hhi hhi9 hgoi hghi
                go_upto_region 60 with fail
                go_cut [39] from 246 to 251 (fun s W1 => s = .string si ∧ Below w3.heap.size w3 W1)
                case first =>
                 as_aux_lemma =>
                 have hB := below_drew (Below.here w3)
                 have hS := HS.out _ hB
                 refine lateP_start (fun W' => World.cell? W' ⟨U.heap.size, 0, none⟩ = some (.string n) ∧ World.cell? W' ⟨ghi, 0, none⟩ = some (.slice Ai hi'.length ci)) (fun _ => true) (by kernel_rfl) ?_
                 generalize w3.drew = Wb at hB hS ⊢
                 refine ppP 0 ?_
                 try simp only [pu]
                 refine ppP 1 ?_
                 try simp only [pu]
                 refine tkP 2 hS ?_
                 try simp only [pu]
                 refine tkP 3 hS ?_
                 try simp only [pu]
                 refine ppP 4 ?_
                 try simp only [pu]
                 refine lateP_one (i := 5) rfl (by kernel_rfl) (fun K hK => ?_)
                 go_simp
                 refine (Hti.out _ hB).mono ?_
                 rintro e wn ⟨rfl, hbn⟩
                 replace hB := below_via hB hbn hB.size
                 clear hS
                 have hS := HS.out _ hB
                 refine hK.out _ _ (fun _ _ => hS) ?_
                 clear hK K
                 try simp only [pu]
                 refine ppP 6 ?_
                 try simp only [pu]
                 refine lateP_done (by kernel_rfl) ?_ _
                 go_wp2_with fail
                 go_meet
                 case rel => exact ⟨rfl, hB⟩
                case rest =>
                obtain ⟨rfl, hb4⟩ := hcut
                obtain ⟨w4, hw4⟩ : ∃ V, V = wc := ⟨_, rfl⟩
                subst hw4
                have hT4 := hT.below hb4
                have hbt4 := hbt.below hb4 hbt.lt
                have hbk4 := H3.out w4 hb4
                have hs4 : w3.heap.size ≤ w4.heap.size := hb4.size
                clear HS Hti H3 hT hbt hbk hb4
                cases th1 with
                | true =>
                 obtain ⟨e1, e2⟩ := it_item (name := n) Hr1.out rfl
                 dsimp only at e1
                 have HI := Lib.hid (show I ++ [⟨si, nx⟩] = (NN.take (p + 1)).flatMap (itemsAt x y z) by rw [Hst1.out, e1, ← hI.out])
                 have HB := Lib.hid (show B2 = B' ++ (NN.take (p + 1)).flatMap (badIt x y z n) by rw [Hst2.out, e2, List.append_nil]; exact hB2.out)
                 clear hI hB2 e1 e2 Hr1
                 obtain ⟨Si, ci', rfl, hci'⟩ := hT4.i.form
                 have t4 : w4.cell? ⟨g19, 4, none⟩ = some (.slice Si I.length ci') := hbt4.cell 4
                 have tl := hbt4.lt
                 as_aux_lemma =>
                 go_wp2_with (at_builtin; go_must (refine wl_append _ rfl (.tmp 255) (.tmp 259) rfl sl_items RItem.fair rfl rfl (hT4.i.alloc RItem.fair _) (Src.one (es := [.string si, .int .i64 nx]) (y := ItemD.mk si nx) rfl (Ones.of_all rfl) rfl (Lies.newAt (by first | rfl | simp [World.setCell]))) (NoT.lt _) ?_ ?_ ?_))
                 ·go_light; (try simp only [List.length_cons, List.length_nil]); omega
                 ·go_light; simp only [World.size_alloc]; omega
                 ·intro v6 w6 ho6 hg6 hv6
                  obtain ⟨A6, c6, rfl, -⟩ := ho6.form
                  simp only [List.length_append, List.length_cons, List.length_nil, Nat.zero_add] at ho6
                  have hT6 := (hT4.alloc _).pushI hg6 ho6
                  have hbt6 := (hbt4.alloc _).grownR (hT4.i.alloc RItem.fair _) (.inl (by go_light; omega)) hg6
                  have hb6 := below_grown (hbk4.alloc (by go_light; omega) (.cells #[.string si, .int .i64 nx] 62)) hg6 (by go_light; simp only [World.size_alloc]; omega) (fun g' h => by have := (hT4.i.lt h).1; go_light; omega)
                  clear t4 tl hT4 hbt4 hbk4
                  have t4 : w6.cell? ⟨g19, 4, none⟩ = some (.slice Si I.length ci') := hbt6.cell 4
                  have f4 := hbt6.frozen 4
                  have hlt6 := hbt6.lt
                  go_wp2_with fail
                  go_roundw
                  case rel =>
                   have hbt7 := hbt6.set_ 4 (.slice A6 (I.length + 1) c6)
                   simp only [List.set_cons_zero, List.set_cons_succ] at hbt7
                   exact ⟨p + 1, I ++ [⟨si, nx⟩], B2, _, by rw [HLn.out], hpl, HI, HB, (show _ ∧ _ by refine ⟨?_, ?_⟩ <;> (try simp only [List.length_append, List.length_cons, List.length_nil]) <;> omega), hT6.setCell (p := ⟨g19, 4, none⟩) (.slice A6 (I.length + 1) c6) (by go_light; show g19 < _; omega), hbt7, hb6.setCell (p := ⟨g19, 4, none⟩) (Nat.le_refl _) _⟩
                  case measure => exact HMs2.out
                | false =>
                 obtain ⟨e1, e2⟩ := it_none (name := n) Hr1.out rfl
                 have HI := Lib.hid (show I = (NN.take (p + 1)).flatMap (itemsAt x y z) by rw [Hst1.out, e1, List.append_nil]; exact hI.out)
                 have HB := Lib.hid (show B2 = B' ++ (NN.take (p + 1)).flatMap (badIt x y z n) by rw [Hst2.out, e2, List.append_nil]; exact hB2.out)
                 clear hI hB2 e1 e2 Hr1
                 go_wp2_with fail
                 go_roundw
                 case rel => exact ⟨p + 1, I, B2, _, by rw [HLn.out], hpl, HI, HB, (show _ ∧ _ by refine ⟨?_, ?_⟩ <;> omega), hT4, hbt4, hbk4⟩
                 case measure => exact HMs2.out
              ·--[N
               as_aux_lemma =>
               have hpe : p = NN.length := by omega
               rw [List.getElem?_eq_none (by omega)] at hm2
               subst hm2
               simp only [Option.getD_none, Option.isSome_none]
               have hI2 := hI.out
               have hB3 := hB2.out
               rw [hpe, List.take_length] at hI2 hB3
               have hlI : I.length ≤ p := hlen3.out.1
               have hlB : B2.length ≤ 30 + p := hlen3.out.2
               have hty : tyT was a b n = ⟨n, en, F, G, I⟩ := by
                unfold tyT
                rw [HK.out, HF.out, HG.out, hI2, HNN.out, HXYZ.out.1, HXYZ.out.2.1, HXYZ.out.2.2, Hen.out]
                rfl
               have hLe : tyL was a b n = B2 := by
                rw [hB3, HBd.out, HNN.out, HXYZ.out.1, HXYZ.out.2.1, HXYZ.out.2.2]
                rfl
               have Hty := Lib.hid hty
               have HLe := Lib.hid hLe
               have hVt := HFV.out wt hbk1
               have hV1t := HF2.out wt hbk1
               have hO3 := hO2.below hV1t
               have hb93 := hb92.below hV1t hb92.lt
               have hbW3 := (HVV.out wt hVt).1
               have bN3 := (HVV.out wt hVt).2
               have hst : V2.heap.size ≤ wt.heap.size := by have := hpt.size; go_light; omega
               obtain ⟨Sb, cb, rfl, hcb⟩ := hO3.b.form
               have hltt : ∀ k, vt.ownBlock = some k → k < V2.heap.size := fun k hk => by have := (hO2.tlt hk).2; omega
               have hltb : ∀ k, (Value.slice Sb B.length cb).ownBlock = some k → k < V2.heap.size := fun k hk => by have := (hO2.b.lt hk).2; omega
               have rT : RType (fun g => V2.heap.size ≤ g ∧ g < wt.heap.size) wt [.string n, .bool en, vf, vg, vi] ⟨n, en, F, G, I⟩ :=
                ⟨_, _, _, rfl, hT1.f.read RField.fair (fun _ h => h.elim) (fun k hk => hT1.f.lt hk) (by show F.length * 56 ≤ _; omega), hT1.g.read RInt.fair (fun _ h => h.elim) (fun k hk => hT1.g.lt hk) (by show G.length * 8 ≤ _; omega), hT1.i.read RItem.fair (fun _ h => h.elim) (fun k hk => hT1.i.lt hk) (by show I.length * 24 ≤ _; omega)⟩
               have rL := hT1.b.read (S := fun g => V2.heap.size ≤ g) (by_ := 32) RFlaw.fair (fun _ h => h.elim) (fun k hk => (hT1.b.lt hk).1) (by omega)
               obtain ⟨Sl, cl0, rfl, hcl0⟩ := hT1.b.form
               obtain ⟨P1, d1, rfl, hd1⟩ := hT1.f.form
               obtain ⟨P2, d2, rfl, hd2⟩ := hT1.g.form
               obtain ⟨P3, d3, rfl, hd3⟩ := hT1.i.form
               have hfb : F.length * 56 ≤ 140737488351232 := by omega
               have hgb : G.length * 8 ≤ 140737488351232 := by omega
               have hib : I.length * 24 ≤ 140737488351232 := by omega
               have hlB1 : B.length ≤ 330 * q := hlen.out.2
               have hla : acc.length ≤ q := hlen.out.1
               have hnl2 : N.length ≤ 12 := HNL.out
               have hMt : M4 ≤ wt.heap.size := by go_light; omega
               have HrT := Lib.hid rT
               have HrL := Lib.hid rL
               have HLT := Lib.hid hltt
               have HLB := Lib.hid hltb
               have hlB330 : B2.length ≤ 330 := by rw [← hLe]; exact tyL_len HG1.out HG2.out HG3.out n
               clear hty hLe hI2 hB3 hI hB2 hlen3 hlen HF HG HBd HNN HAb HMI HNI HXYZ hT1 hbk1 hV1t hVt rT rL hltt hltb hO2 hb92 hpt HFR HCH HP hlI hlB hp hpe
               as_aux_lemma =>
               go_wp2_with (at_builtin; go_must (refine wl_append _ rfl (.tmp 262) (.tmp 263) rfl sl_flaws RFlaw.fair rfl rfl hO3.b (Src.noT (HrL.out.src (by decide) RFlaw.ones)) (NoT.lt _) ?_ ?_ ?_))
               ·go_light; (try simp only [List.length_cons, List.length_nil]); omega
               ·intro v7 w7 ho7 hg7 hv7
                have hO7 := hO3.pushB hg7 ho7 hv7
                have h97 := hb93.grownR hO3.b (.inl (by go_light; omega)) hg7
                have hX7 := hbt1.grownR hO3.b (.inr (by decide)) hg7
                have bN7 := bN3.grownR hO3.b (.inr (by decide)) hg7
                have hb7 := below_grown hbW3 hg7 (by go_light; omega) (fun g' h => by have := (hO3.b.lt h).1; go_light; omega)
                have hrT7 := Lib.hid (RType.fair.keep HrT.out (Keep.of_grown hg7 (fun k hk h => by have := HLB.out k hk; omega)))
                have HLV : ∀ k, v7.ownBlock = some k → k < V2.heap.size ∨ wt.heap.size ≤ k := fun k hk => by
                 rcases hv7 with h | h
                 ·exact .inl (HLB.out k (h ▸ hk))
                 ·rw [h] at hk; injection hk with hk; right; omega
                have HLV7 := Lib.hid HLV
                have hs7 : wt.heap.size ≤ w7.heap.size := hg7.size
                clear hO3 hb93 hbt1 bN3 hbW3 HrT HrL HLV hg7 ho7 hv7 HLB
                obtain ⟨A7, c7, rfl, hc7⟩ := hO7.b.form
                by_cases hL0 : 0 < B2.length
                ·have hnm : nameM was a b n = ([], B2) := by unfold nameM; rw [HK.out, HLe.out]; simp [hL0]
                 have HA2 := Lib.hid (show acc = (N.take (q + 1)).flatMap fun n => (nameM was a b n).1 by rw [Hst1.out, hnm, List.append_nil]; exact hacc.out)
                 have HB2 := Lib.hid (show B ++ B2 = (N.take (q + 1)).flatMap fun n => (nameM was a b n).2 by rw [Hst2.out, hnm, ← hB.out])
                 clear hnm hacc hB
                 go_wp2_with fail
                 go_roundw
                 case rel => exact ⟨q + 1, acc, B ++ B2, _, by rw [HLast.out], hlq, HA2, HB2, (show _ ∧ _ by refine ⟨?_, ?_⟩ <;> (try simp only [List.length_append]) <;> omega), hO7, h97, hb7⟩
                 case measure => exact HMs.out
                ·have hL1 : B2 = [] := List.eq_nil_of_length_eq_zero (by omega)
                 subst hL1
                 rw [List.append_nil] at hO7
                 have hBL : (B ++ ([] : List FlawD)).length = B.length := by simp
                 rw [hBL] at *
                 replace HLV7 : Hid (∀ k, (Value.slice A7 B.length c7).ownBlock = some k → k < V2.heap.size ∨ wt.heap.size ≤ k) := Lib.hid (fun k hk => HLV7.out k (by simpa using hk))
                 have HT7 := Lib.hid (fun W' (hW : Below w7.heap.size w7 W') => (hb7.trans (hW.mono (by have := h97.lt; go_light; omega)) : Below G9 Wa W'))
                 obtain ⟨th, hth⟩ : ∃ t, t = (kindS h n).there := ⟨_, rfl⟩
                 obtain ⟨td, htd⟩ : ∃ s, s = toldA 116 h n 0 := ⟨_, rfl⟩
                 have etd : (td.toList == ([] : List UInt8)) = !th := by
                  have h1 := toldA_there (c := 116) Hgo.out n 0
                  rw [nil_eq, htd, Bool.eq_iff_iff, decide_eq_true_eq, h1, hth]
                  show (kindS _ _).there = false ↔ (!(kindS _ _).there) = true
                  cases (kindS h n).there <;> simp
                 have Htd := Lib.hid (fun W' (hW : Below w7.heap.size w7 W') => (htd ▸ told_any (Old w) _ h n 116 0 W' (Hhd9.out W' (HT7.out W' hW)).2 (.inl rfl) (good_fieldsOk Hgo.out) : Calls Tryz.prog 18 #[.agg #[.slice Ah h.length ch], .string n, .int .u8 116, .int .i64 0] W' (Ret W' (.string td))))
                 have HS := Lib.hid (fun W' (hW : Below w7.heap.size w7 W') => (show (fun W' => World.cell? W' ⟨U.heap.size, 0, none⟩ = some (.string n) ∧ World.cell? W' ⟨gh, 0, none⟩ = some (.slice Ah h.length ch)) W' from
                  ⟨(bN7.below hW bN7.lt).cell 0, (Hhd9.out W' (HT7.out W' hW)).1.cell 0⟩))
                 have Hth := Lib.hid hth
                 clear hBL hL0 hlB330 hth htd
                 go_upto_region 65 with fail
                 go_cut [40] from 268 to 273 (fun s W1 => s = .bool th ∧ Below w7.heap.size w7 W1)
                 case first =>
                  as_aux_lemma =>
                  have hB := below_drew (Below.here w7)
                  have hS := HS.out _ hB
                  refine lateP_start (fun W' => World.cell? W' ⟨U.heap.size, 0, none⟩ = some (.string n) ∧ World.cell? W' ⟨gh, 0, none⟩ = some (.slice Ah h.length ch)) (fun _ => true) (by kernel_rfl) ?_
                  generalize w7.drew = Wb at hB hS ⊢
                  refine ppP 0 ?_
                  try simp only [pu]
                  refine ppP 1 ?_
                  try simp only [pu]
                  refine tkP 2 hS ?_
                  try simp only [pu]
                  refine tkP 3 hS ?_
                  try simp only [pu]
                  refine lateP_one (i := 4) rfl (by kernel_rfl) (fun K hK => ?_)
                  go_simp
                  refine (Htd.out _ hB).mono ?_
                  rintro e wn ⟨rfl, hbn⟩
                  replace hB := below_via hB hbn hB.size
                  clear hS
                  have hS := HS.out _ hB
                  refine hK.out _ _ (fun _ _ => hS) ?_
                  clear hK K
                  try simp only [pu]
                  refine ppP 5 ?_
                  try simp only [pu]
                  refine ppP 6 ?_
                  try simp only [pu]
                  refine lateP_done (by kernel_rfl) ?_ _
                  go_wp2_with fail
                  go_meet
                  case rel => exact ⟨rfl, hB⟩
                 case rest =>
                 obtain ⟨rfl, hb8⟩ := hcut
                 obtain ⟨w8, hw8⟩ : ∃ V, V = wc := ⟨_, rfl⟩
                 subst hw8
                 have hX8 := hX7.below hb8 hX7.lt
                 have HS8 := Lib.hid (fun W' (hW : Below w8.heap.size w8 W') => (show (fun W' => World.cell? W' ⟨g19, 2, none⟩ = some (.slice P1 F.length d1) ∧ World.cell? W' ⟨g19, 3, none⟩ = some (.slice P2 G.length d2) ∧ World.cell? W' ⟨g19, 4, none⟩ = some (.slice P3 I.length d3)) W' from
                  ⟨(hX8.below hW hX8.lt).cell 2, (hX8.below hW hX8.lt).cell 3, (hX8.below hW hX8.lt).cell 4⟩))
                 obtain ⟨fu, hfu⟩ : ∃ c, c = decide (0 < (F.length : Int) + (G.length : Int)) := ⟨_, rfl⟩
                 obtain ⟨iu, hiu⟩ : ∃ c, c = decide (0 < (I.length : Int)) := ⟨_, rfl⟩
                 obtain ⟨cl, hcl⟩ : ∃ c, c = clashF (kT was a b n).1 (tyT was a b n) := ⟨_, rfl⟩
                 have hclv : cl = ((!th && (fu || iu)) || (th && en && fu) || (th && !en && iu)) := by
                  rw [hcl, Hty.out, HK.out, hfu, hiu, Hth.out, Hen.out]
                  unfold clashF
                  dsimp only
                  rw [show decide (0 < F.length + G.length) = decide (0 < (F.length : Int) + (G.length : Int)) from decide_eq_decide.2 (by omega), show decide (0 < I.length) = decide (0 < (I.length : Int)) from decide_eq_decide.2 (by omega)]
                 have Hcl := Lib.hid hcl
                 have ew : IntKind.i64.wrap ((F.length : Int) + (G.length : Int)) = (F.length : Int) + (G.length : Int) := IntWalk.i64_in _ (by omega)
                 clear HS Htd etd hcl
                 go_upto_region 66 with fail
                 go_cut [41, 42] from 274 to 285 (fun s t W1 => s = .bool fu ∧ t = .bool iu ∧ Below w8.heap.size w8 W1)
                 case first =>
                  as_aux_lemma =>
                  have hB := below_drew (Below.here w8)
                  have hS := HS8.out _ hB
                  refine lateP_start (fun W' => World.cell? W' ⟨g19, 2, none⟩ = some (.slice P1 F.length d1) ∧ World.cell? W' ⟨g19, 3, none⟩ = some (.slice P2 G.length d2) ∧ World.cell? W' ⟨g19, 4, none⟩ = some (.slice P3 I.length d3)) (fun _ => true) (by kernel_rfl) ?_
                  generalize w8.drew = Wb at hB hS ⊢
                  refine ppP 0 ?_
                  try simp only [pu]
                  refine tkP 1 hS ?_
                  try simp only [pu]
                  refine ppP 2 ?_
                  try simp only [pu]
                  refine ppP 3 ?_
                  try simp only [pu]
                  refine tkP 4 hS ?_
                  try simp only [pu]
                  refine ppP 5 ?_
                  try simp only [pu]
                  refine ppP 6 ?_
                  try simp only [pu]
                  refine ppP 7 ?_
                  try simp only [pu]
                  refine ppP 8 ?_
                  try simp only [pu]
                  refine tkP 9 hS ?_
                  try simp only [pu]
                  refine ppP 10 ?_
                  try simp only [pu]
                  refine ppP 11 ?_
                  try simp only [pu]
                  refine ppP 12 ?_
                  try simp only [pu]
                  refine ppP 13 ?_
                  try simp only [pu]
                  refine lateP_done (by kernel_rfl) ?_ _
                  go_wp2_with fail
                  go_meet
                  case rel => exact ⟨by rw [hfu], by rw [hiu]; refine congrArg Value.bool (decide_eq_decide.2 ?_); omega, hB⟩
                 case rest =>
                 obtain ⟨rfl, rfl, hb9'⟩ := hcut
                 obtain ⟨w9, hw9⟩ : ∃ V, V = wc := ⟨_, rfl⟩
                 subst hw9
                 have hb79 := below_via hb8 hb9' hb8.size
                 have hX9 := hX8.below hb9' hX8.lt
                 have hO9 := hO7.below hb79
                 have h99 := h97.below hb79 h97.lt
                 have bN9 := bN7.below hb79 bN7.lt
                 have hbW9 := HT7.out w9 hb79
                 have hs9 : w7.heap.size ≤ w9.heap.size := hb79.size
                 have hrT9 := Lib.hid (RType.fair.keep hrT7.out (Keep.of_below hb79))
                 obtain ⟨p0, p1x, p2, p3, p4⟩ := hX9.five
                 have hlX := hX9.lt
                 clear HS8 hb8 hb9' hb79 hX8 hX7 hO7 h97 bN7 hb7 hrT7 HT7 ew hfu hiu
                 go_upto_region 67 with fail
                 go_cut [311] from 286 to 310 (fun s W => s = .bool cl ∧ W = w9)
                 case first =>
                  as_aux_lemma =>
                  cases th <;> cases en <;> cases fu <;> cases iu
                  all_goals
                   simp only [Bool.not_true, Bool.not_false, Bool.true_and, Bool.false_and, Bool.or_true, Bool.or_false, Bool.true_or, Bool.and_true, Bool.and_false, Bool.false_or] at hclv
                   go_wp2_with fail
                   go_meet
                   case rel => exact ⟨by rw [hclv], rfl⟩
                 case rest =>
                 obtain ⟨rfl, hwc⟩ := hcut
                 subst hwc
                 clear hclv
                 have s0 : wc.cell? ⟨U.heap.size, 0, none⟩ = some (.string n) := bN9.cell 0
                 have sl := bN9.lt
                 have hVc : V2.heap.size ≤ wc.heap.size := by go_light; omega
                 have hMV2 : M4 ≤ V2.heap.size := by go_light; omega
                 cases cl with
                 | false =>
                  cases th with
                  | false =>
                   have hnm : nameM was a b n = ([], []) := by
                    unfold nameM
                    rw [HLe.out, ← Hcl.out, HK.out]
                    simp [← Hth.out]
                   have HA2 := Lib.hid (show acc = (N.take (q + 1)).flatMap fun n => (nameM was a b n).1 by rw [Hst1.out, hnm, List.append_nil]; exact hacc.out)
                   have HB2 := Lib.hid (show B = (N.take (q + 1)).flatMap fun n => (nameM was a b n).2 by rw [Hst2.out, hnm, List.append_nil]; exact hB.out)
                   clear hnm hacc hB Hth Hcl s0 sl p0 p1x p2 p3 p4 hlX
                   as_aux_lemma =>
                   go_wp2_with fail
                   go_roundw
                   case rel => exact ⟨q + 1, acc, B, _, by rw [HLast.out], hlq, HA2, HB2, (show _ ∧ _ by refine ⟨?_, ?_⟩ <;> omega), hO9, h99, hbW9⟩
                   case measure => exact HMs.out
                  | true =>
                   have hnm : nameM was a b n = ([⟨n, en, F, G, I⟩], []) := by
                    unfold nameM
                    rw [HLe.out, ← Hcl.out, Hty.out, HK.out]
                    simp [← Hth.out]
                   have HA2 := Lib.hid (show acc ++ [⟨n, en, F, G, I⟩] = (N.take (q + 1)).flatMap fun n => (nameM was a b n).1 by rw [Hst1.out, hnm, ← hacc.out])
                   have HB2 := Lib.hid (show B = (N.take (q + 1)).flatMap fun n => (nameM was a b n).2 by rw [Hst2.out, hnm, List.append_nil]; exact hB.out)
                   have hrT8 := RType.fair.keep hrT9.out (Keep.alloc _ wc (.cells #[.string n, .bool en, .slice P1 F.length d1, .slice P2 G.length d2, .slice P3 I.length d3] 38))
                   have hO8 := hO9.alloc (.cells #[.string n, .bool en, .slice P1 F.length d1, .slice P2 G.length d2, .slice P3 I.length d3] 38)
                   obtain ⟨T2, g1, g2, g3, g4, g5⟩ := hO8.take hrT8 hMV2 (by simp only [World.size_alloc]; omega) (fun k hk => .inl (HLT.out k hk)) HLV7.out
                   obtain ⟨Dt, dt, rfl, hdt⟩ := hO9.tform
                   have G1 := Lib.hid g1
                   have G2 := Lib.hid g2
                   have G3 := Lib.hid g3
                   have G4 := Lib.hid g4
                   have G5 := Lib.hid g5
                   clear hnm hacc hB Hth Hcl hrT8 hO8 g1 g2 g3 g4 g5
                   have k0 : wc.cell? ⟨G9, 0, none⟩ = some (.slice Dt acc.length dt) := h99.cell 0
                   have h9l := h99.lt
                   as_aux_lemma =>
                   go_wp2_with (at_builtin; go_must (refine wl_append _ rfl (.tmp 319) (.tmp 321) rfl sl_types RType.fair rfl rfl G3.out (Src.one (es := [.string n, .bool en, .slice P1 F.length d1, .slice P2 G.length d2, .slice P3 I.length d3]) (y := ⟨n, en, F, G, I⟩) rfl (Ones.of_all rfl) G4.out (Lies.newAt (by first | rfl | simp [World.setCell]))) (fun g h => (G1.out g h).2) ?_ ?_ ?_))
                   ·go_light; (try simp only [List.length_cons, List.length_nil]); omega
                   ·go_light; simp only [World.size_alloc]; omega
                   ·intro v9 w9 ho9 hg9 hv9
                    obtain ⟨A9, c9, rfl, -⟩ := ho9.form
                    simp only [List.length_append, List.length_cons, List.length_nil, Nat.zero_add] at ho9 hv9
                    have hOA := OB.made G1.out G2.out G3.out G5.out hg9 ho9
                    have h9A := (h99.alloc (.cells #[.string n, .bool en, .slice P1 F.length d1, .slice P2 G.length d2, .slice P3 I.length d3] 38)).grownR G3.out (.inl (by go_light; omega)) hg9
                    have hbA := below_grown (hbW9.alloc (by go_light; omega) (.cells #[.string n, .bool en, .slice P1 F.length d1, .slice P2 G.length d2, .slice P3 I.length d3] 38)) hg9 (by go_light; simp only [World.size_alloc]; omega) (fun g' h => by have := (G3.out.lt h).1; go_light; omega)
                    clear k0 h9l s0 sl p0 p1x p2 p3 p4 hlX
                    have k0 : w9.cell? ⟨G9, 0, none⟩ = some (.slice Dt acc.length dt) := h9A.cell 0
                    have kf := h9A.frozen 0
                    have h9l := h9A.lt
                    go_wp2_with fail
                    go_roundw
                    case rel =>
                     have h100 := h9A.set_ 0 (.slice A9 (acc.length + 1) c9)
                     simp only [List.set_cons_zero] at h100
                     exact ⟨q + 1, acc ++ [⟨n, en, F, G, I⟩], B, _, by rw [HLast.out], hlq, HA2, HB2, (show _ ∧ _ by refine ⟨?_, ?_⟩ <;> (try simp only [List.length_append, List.length_cons, List.length_nil]) <;> omega), hOA.setCell (p := ⟨G9, 0, none⟩) (.slice A9 (acc.length + 1) c9) (by show G9 < M4; omega), h100, hbA.setCell (p := ⟨G9, 0, none⟩) (Nat.le_refl _) _⟩
                    case measure => exact HMs.out
                 | true =>
                  have hnm : nameM was a b n = ([], [⟨n, 0, 0⟩]) := by
                   unfold nameM
                   rw [HLe.out, ← Hcl.out, HK.out]
                   simp
                  have HA2 := Lib.hid (show acc = (N.take (q + 1)).flatMap fun n => (nameM was a b n).1 by rw [Hst1.out, hnm, List.append_nil]; exact hacc.out)
                  have HB2 := Lib.hid (show B ++ [⟨n, 0, 0⟩] = (N.take (q + 1)).flatMap fun n => (nameM was a b n).2 by rw [Hst2.out, hnm, ← hB.out])
                  clear hnm hacc hB Hth Hcl
                  as_aux_lemma =>
                  go_wp2_with (at_builtin; go_must (refine wl_append _ rfl (.tmp 312) (.tmp 315) rfl sl_flaws RFlaw.fair rfl rfl (hO9.b.alloc RFlaw.fair _) (Src.one (es := [.string n, .int .i64 0, .int .i64 0]) (y := FlawD.mk n 0 0) rfl (Ones.of_all rfl) rfl (Lies.newAt (by first | rfl | simp [World.setCell]))) (NoT.lt _) ?_ ?_ ?_))
                  ·go_light; (try simp only [List.length_cons, List.length_nil]); omega
                  ·go_light; simp only [World.size_alloc]; omega
                  ·intro v6 w6 ho6 hg6 hv6
                   have hO6 := (hO9.alloc (.cells #[.string n, .int .i64 0, .int .i64 0] 50)).pushB hg6 ho6 (by simpa using hv6)
                   have h96 := (h99.alloc (.cells #[.string n, .int .i64 0, .int .i64 0] 50)).grownR (hO9.b.alloc RFlaw.fair _) (.inl (by go_light; omega)) hg6
                   have hb6 := below_grown (hbW9.alloc (by go_light; omega) (.cells #[.string n, .int .i64 0, .int .i64 0] 50)) hg6 (by go_light; simp only [World.size_alloc]; omega) (fun g' h => by have := (hO9.b.lt h).1; go_light; omega)
                   go_wp2_with fail
                   go_roundw
                   case rel => exact ⟨q + 1, acc, B ++ [⟨n, 0, 0⟩], _, by rw [HLast.out], hlq, HA2, HB2, (show _ ∧ _ by refine ⟨?_, ?_⟩ <;> (try simp only [List.length_append, List.length_cons, List.length_nil]) <;> omega), hO6, h96, hb6⟩
                   case measure => exact HMs.out
       ·rw [dif_neg hlq] at bT
        as_aux_lemma =>
        have s0 : wt.cell? ⟨U.heap.size, 0, none⟩ = some (.string ⟨#[]⟩) := bT.cell 0
        have sl := bT.lt
        have hOW := hO.below hbV
        have hb9W := hb9.below hbV hb9.lt
        have hbW := HV.out _ hbV
        have hqe : q = N.length := by omega
        subst hqe
        have ha2 := hacc.out
        have hb2 := hB.out
        rw [List.take_length] at ha2 hb2
        have hA : acc = outM was a b := by rw [ha2, HN.out]; rfl
        have hBm : B = badM was a b := by rw [hb2, HN.out]; rfl
        have hR0 : R = if 0 < B.length then ([], B, 9) else if goodF acc ≠ 0 then ([], [], goodF acc) else (acc, [], 0) := by
         rw [HRR.out, booksM, if_neg (by simp [HG1.out, HG2.out, HG3.out]), ← hA, ← hBm]
        have hok : BookOk acc := hA ▸ Ho.out
        have hsm : BookSmall acc := hA ▸ out_small HG1.out HG2.out HG3.out
        have hla : acc.length ≤ N.length := hlen.out.1
        have hlB : B.length ≤ 330 * N.length := hlen.out.2
        have hnl2 : N.length ≤ 12 := HNL.out
        obtain ⟨T, t1, t2, t3, t4⟩ := hOW
        have rt : RBook (fun g => M4 ≤ g) wt [vt] acc := t3.read RType.fair (fun g h _ => (t1 g h).1) (fun k hk => (t3.lt hk).1) (by omega)
        have rb := t4.read (S := fun g => M4 ≤ g) (by_ := 32) RFlaw.fair (fun _ h => h.elim) (fun k hk => (t4.lt hk).1) (by omega)
        obtain ⟨Dt, dt, rfl, -⟩ := t3.form
        obtain ⟨Sb, cb, rfl, -⟩ := t4.form
        have hr6 := (HALL.out wt hbW).2.1.2.2.2
        have hwW := (HALL.out wt hbW).2.2
        have hMo := (HALL.out wt hbW).1.2.2.2
        have hnew : ∀ (W : World) g, M4 ≤ g → g < W.heap.size → New w g := fun _ g h _ => by unfold New; omega
        have hns : ¬ M4 ≤ w.heap.size + 1 + 1 + 1 := by omega
        have HRT := Lib.hid rt
        have HRB := Lib.hid rb
        have HOK := Lib.hid hok
        have HSM := Lib.hid hsm
        have HMo := Lib.hid hMo
        have HNW := Lib.hid hnew
        clear ha2 hb2 hA hBm hok hsm hlen t1 t2 t3 t4 rt rb hMo hnew hacc hB hb hbV bT hO hb9 hbW
        by_cases hB0 : 0 < B.length
        ·rw [if_pos hB0] at hR0
         subst hR0
         have c6 := hr6.cell 0
         have f6 := hr6.frozen 0
         have l6 := hr6.lt
         simp only [List.getElem?_cons_zero] at c6
         have hb6 := Lib.hid (hr6.set_ 0 (.slice none 0 0))
         have hw6 := Lib.hid (hwW.setCell (p := ⟨w.heap.size + 1 + 1 + 1, 0, none⟩) (by show w.heap.size ≤ w.heap.size + 1 + 1 + 1; omega) (.slice none 0 0))
         go_wp2_with fail
         exact mergeR_none_end hb6.out hw6.out rfl ((RSl.fair RFlaw.fair).mono ((RSl.fair RFlaw.fair).keep HRB.out (Keep.setCell wt (a := ⟨w.heap.size + 1 + 1 + 1, 0, none⟩) (.slice none 0 0) hns)) (HNW.out _)) rfl rfl rfl rfl
        ·rw [if_neg hB0] at hR0
         have HR0 := Lib.hid hR0
         have hgc := goodR_any (fun g => M4 ≤ g) _ acc wt HRT.out HMo.out HOK.out HSM.out
         have Hgc := Lib.hid hgc
         have c9 := hb9W.cell 0
         have l9 := hb9W.lt
         simp only [List.getElem?_cons_zero] at c9
         clear hgc hR0
         go_wp2_with fail
         refine Hgc.out.mono ?_
         rintro e w5 ⟨rfl, hb5⟩
         have hr7 := hr6.below hb5 hr6.lt
         have hw7 := below_via hwW hb5 hwW.size
         have h97 := hb9W.below hb5 hb9W.lt
         have HRT5 := Lib.hid (RBook.fair.below HRT.out hb5)
         clear c9 l9 s0 sl hr6 hwW hb9W hb5
         have hR0 := HR0.out
         by_cases hg : goodF acc = 0
         ·have eg : (goodF acc != 0) = false := by simp [hg]
          rw [if_neg (by simpa using hg)] at hR0
          have c9 := h97.cell 0
          have l9 := h97.lt
          have c6 := hr7.cell 0
          have f6 := hr7.frozen 0
          have l6 := hr7.lt
          simp only [List.getElem?_cons_zero] at c6 c9
          subst hR0
          have hb6 := Lib.hid (hr7.set_ 0 (.slice Dt acc.length dt))
          have hw6 := Lib.hid (hw7.setCell (p := ⟨w.heap.size + 1 + 1 + 1, 0, none⟩) (by show w.heap.size ≤ w.heap.size + 1 + 1 + 1; omega) (.slice Dt acc.length dt))
          clear hg
          go_wp2_with fail
          exact bodyPost_ret (mergeR_results hb6.out rfl rfl rfl) rfl ⟨_, _, rfl, RBook.fair.mono (RBook.fair.keep HRT5.out (Keep.setCell w5 (a := ⟨w.heap.size + 1 + 1 + 1, 0, none⟩) (.slice Dt acc.length dt) hns)) (HNW.out _), RSl.nil_, hw6.out⟩
         ·have eg : (goodF acc != 0) = true := by simp [hg]
          rw [if_pos hg] at hR0
          subst hR0
          have c6 := hr7.cell 0
          have f6 := hr7.frozen 0
          have l6 := hr7.lt
          simp only [List.getElem?_cons_zero] at c6
          have hb6 := Lib.hid (hr7.set_ 0 (.slice none 0 0))
          have hw6 := Lib.hid (hw7.setCell (p := ⟨w.heap.size + 1 + 1 + 1, 0, none⟩) (by show w.heap.size ≤ w.heap.size + 1 + 1 + 1; omega) (.slice none 0 0))
          go_wp2_with fail
          exact mergeR_none_end hb6.out hw6.out rfl RSl.nil_ rfl rfl rfl rfl
   ·have e3 : (goodF b != 0) = true := by simp [hg3]
    have hRe : R = ([], [], 1) := by rw [HRR.out, booksM, if_pos (.inr (.inr hg3))]
    subst hRe
    have c6 := u4.cell 0
    have f6 := u4.frozen 0
    have l6 := u4.lt
    simp only [List.getElem?_cons_zero] at c6
    have hb6 := Lib.hid (u4.set_ 0 (.slice none 0 0))
    have hw6 := Lib.hid (hw3.setCell (p := ⟨w.heap.size + 1 + 1 + 1, 0, none⟩) (by show w.heap.size ≤ w.heap.size + 1 + 1 + 1; omega) (.slice none 0 0))
    go_wp2_with fail
    exact mergeR_none_end hb6.out hw6.out rfl RSl.nil_ rfl rfl rfl rfl
  ·have e2 : (goodF a != 0) = true := by simp [hg2]
   have hRe : R = ([], [], 1) := by rw [HRR.out, booksM, if_pos (.inr (.inl hg2))]
   subst hRe
   have c6 := z4.cell 0
   have f6 := z4.frozen 0
   have l6 := z4.lt
   simp only [List.getElem?_cons_zero] at c6
   have hb6 := Lib.hid (z4.set_ 0 (.slice none 0 0))
   have hw6 := Lib.hid (hw2.setCell (p := ⟨w.heap.size + 1 + 1 + 1, 0, none⟩) (by show w.heap.size ≤ w.heap.size + 1 + 1 + 1; omega) (.slice none 0 0))
   go_wp2_with fail
   exact mergeR_none_end hb6.out hw6.out rfl RSl.nil_ rfl rfl rfl rfl
 ·have e1 : (goodF was != 0) = true := by simp [hg1]
  have hRe : R = ([], [], 1) := by rw [HRR.out, booksM, if_pos (.inl hg1)]
  subst hRe
  have c6 := y4.cell 0
  have f6 := y4.frozen 0
  have l6 := y4.lt
  simp only [List.getElem?_cons_zero] at c6
  have hb6 := Lib.hid (y4.set_ 0 (.slice none 0 0))
  have hw6 := Lib.hid (hw1.setCell (p := ⟨w.heap.size + 1 + 1 + 1, 0, none⟩) (by show w.heap.size ≤ w.heap.size + 1 + 1 + 1; omega) (.slice none 0 0))
  go_wp2_with fail
  exact mergeR_none_end hb6.out hw6.out rfl RSl.nil_ rfl rfl rfl rfl
end Go.Proofs.YtihdnjnhhhafkaaGreatDoor
