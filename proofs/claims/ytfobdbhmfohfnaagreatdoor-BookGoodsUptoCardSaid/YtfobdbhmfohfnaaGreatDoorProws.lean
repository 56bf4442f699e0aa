/- Several texts of walks and laws in one file; what each proves stands at its head. -/
import Derived.Test.YtfobdbhmfohfnaaGreatDoorMessage
import Derived.Test.YtfobdbhmfohfnaaGreatDoorStableRow
import Derived.Test.YtfobdbhmfohfnaaGreatDoorSplit
set_option linter.all false
namespace Go.Proofs.YtfobdbhmfohfnaaGreatDoor
open Go.RowKit
section
variable {α : Type} {base e sz : Nat} {R : Rel α} {T : Nat → Prop} {w w' : World} {v : Value} {xs : List α}
theorem Own.base_le {b : Nat} (h : Own base e sz R T w v xs) (hb : b ≤ base) : Own b e sz R T w v xs := by
 obtain ⟨css, ⟨h0, h1⟩, h2, h3, h4⟩ := h
 refine ⟨css, ⟨h0, ?_⟩, h2, h3, h4⟩
 rcases h1 with h1 | ⟨g, cap, cur, hv, hg, hr⟩
 ·exact .inl h1
 ·exact .inr ⟨g, cap, cur, hv, by omega, hr⟩
theorem Own.keepB (hR : Fair R) (h : Own base e sz R NoT w v xs) {S : Nat → Prop} (hk : Keep S w w') (hS : ∀ k, v.ownBlock = some k → S k) : Own base e sz R NoT w' v xs := by
 obtain ⟨css, ⟨h0, h1⟩, h2, h3, h4⟩ := h
 refine ⟨css, ⟨h0, ?_⟩, h2, h3, fun k x cs hx hc => ⟨(h4 k x cs hx hc).1, hR.keep (h4 k x cs hx hc).2 ⟨hk.1, fun _ h => h.elim⟩⟩⟩
 rcases h1 with h1 | ⟨g, cap, cur, hv, hg, hh, hr⟩
 ·exact .inl h1
 ·refine .inr ⟨g, cap, cur, hv, hg, ?_, hr⟩
  rw [hk.2 g (hS g (by rw [hv]; rfl)) (Array.getElem?_eq_some_iff.1 hh).1]; exact hh
end
def TypeC.fv (x : TypeC) : Value := .slice x.F x.f x.p
def TypeC.fb (x : TypeC) : Option Nat := x.fv.ownBlock
def RowAt (base : Nat) (S : Nat → Prop) (w : World) (x : TypeC) (t : TypeD) : Prop :=
 x.name = t.name ∧ x.enum = t.enum ∧ Own base 44 5 RField NoT w x.fv t.fields ∧ RSl 1 8 RInt S w [.slice x.G x.g x.q] t.gone ∧ RSl 2 24 RItem S w [.slice x.I x.i x.r] t.items
def Rest (base : Nat) (v : Value) (xs : List TypeC) (y : Nat) : Prop := base ≤ y ∧ v.ownBlock ≠ some y ∧ ∀ x ∈ xs, x.fb ≠ some y
def ApartC (a b : TypeC) : Prop := ∀ k, a.fb = some k → b.fb ≠ some k
theorem ApartC.symm {a b : TypeC} (h : ApartC a b) : ApartC b a := fun k h1 h2 => h k h2 h1
structure ReadC (base : Nat) (w : World) (v : Value) (xs : List TypeC) (ts : List TypeD) : Prop where
 row : Own base 40 5 RTypeC NoT w v xs
 apart : xs.Pairwise ApartC
 all : All2 (RowAt base (Rest base v xs) w) xs ts
theorem ReadC.nil_ (base : Nat) (w : World) : ReadC base w (.slice none 0 0) [] [] := ⟨Own.nil_ _ _ _ _ _ _, .nil, .nil⟩
section
variable {base : Nat} {w w' : World} {v : Value} {xs : List TypeC} {ts : List TypeD}
theorem RowAt.keepS {S : Nat → Prop} {x : TypeC} {t : TypeD} (h : RowAt base S w x t) {K : Nat → Prop} (hk : Keep K w w') (hS : ∀ y, S y → K y) (hf : ∀ k, x.fb = some k → K k) : RowAt base S w' x t := by
 obtain ⟨h1, h2, h3, h4, h5⟩ := h
 exact ⟨h1, h2, h3.keepB RField.fair hk hf, (RSl.fair RInt.fair).keep h4 (hk.mono hS), (RSl.fair RItem.fair).keep h5 (hk.mono hS)⟩
theorem RowAt.monoS {S T : Nat → Prop} {x : TypeC} {t : TypeD} (h : RowAt base S w x t) (hS : ∀ y, S y → y < w.heap.size → T y) : RowAt base T w x t :=
 ⟨h.1, h.2.1, h.2.2.1, (RSl.fair RInt.fair).mono h.2.2.2.1 hS, (RSl.fair RItem.fair).mono h.2.2.2.2 hS⟩
theorem RowAt.flt {S : Nat → Prop} {x : TypeC} {t : TypeD} (h : RowAt base S w x t) {k : Nat} (hk : x.fb = some k) : base ≤ k ∧ k < w.heap.size := h.2.2.1.lt hk
theorem ReadC.kept (h : ReadC base w v xs ts) (hk : Keep (fun y => base ≤ y) w w') : ReadC base w' v xs ts :=
 ⟨h.row.keepB RTypeC.fair hk (fun _ e => (h.row.lt e).1), h.apart, h.all.mono fun _ _ _ hx => hx.keepS hk (fun _ hy => hy.1) (fun _ e => (hx.flt e).1)⟩
theorem ReadC.len (h : ReadC base w v xs ts) : xs.length = ts.length := h.all.len
theorem ReadC.flt (h : ReadC base w v xs ts) {x : TypeC} (hx : x ∈ xs) {k : Nat} (hk : x.fb = some k) : base ≤ k ∧ k < w.heap.size := by
 obtain ⟨t, _, ht⟩ := h.all.left x hx
 exact ht.flt hk
theorem ReadC.fne (h : ReadC base w v xs ts) {x : TypeC} (hx : x ∈ xs) {k : Nat} (hk : x.fb = some k) : v.ownBlock ≠ some k := by
 obtain ⟨t, _, ht⟩ := h.all.left x hx
 intro hv
 rcases own_ne ht.2.2.1 h.row (by decide) with h0 | h0
 ·rw [show x.fv.ownBlock = some k from hk] at h0; cases h0
 ·exact h0 (by rw [show x.fv.ownBlock = some k from hk, hv])
theorem ReadC.push {g : Nat} {w1 w2 w3 : World} {x : TypeC} {t : TypeD} {v' : Value} (h : ReadC base w v xs ts) (hg : w.grownBy w1 (some g)) (hgb : g < base) (hb : base ≤ w.heap.size)
  (hx : RowAt w.heap.size (fun y => w.heap.size ≤ y ∧ x.fb ≠ some y) w1 x t) (ha : Below w1.heap.size w1 w2)
  (ho : Own base 40 5 RTypeC NoT w3 v' (xs ++ [x])) (hg3 : w2.grownBy w3 v.ownBlock) (hv : v'.ownBlock = v.ownBlock ∨ v'.ownBlock = some w2.heap.size) : ReadC base w3 v' (xs ++ [x]) (ts ++ [t]) := by
 have s1 := hg.size
 have s2 := ha.size
 have s3 := hg3.size
 refine ⟨ho, ?_, ?_⟩
 ·refine List.pairwise_append.2 ⟨h.apart, List.pairwise_singleton _ _, fun a hxa b hb' k hk hk' => ?_⟩
  rw [List.mem_singleton] at hb'
  subst hb'
  have := (h.flt hxa hk).2
  have := (hx.flt hk').1
  omega
 ·refine All2.append ?_ (.cons ?_ .nil)
  ·refine h.all.mono fun a b hm hab => ?_
   have hK : Keep (fun y => (base ≤ y ∧ v.ownBlock ≠ some y) ∧ y < w.heap.size) w w3 :=
    ((Keep.of_grown hg (fun k e hk => by injection e with e; omega)).trans ((Keep.of_below ha).mono (fun _ h => h))).trans (Keep.of_grown hg3 (fun k e hk => hk.1.2 e))
   have hab2 : RowAt base (fun y => Rest base v xs y ∧ y < w.heap.size) w a b := hab.monoS fun y hy hl => ⟨hy, hl⟩
   refine (hab2.keepS hK (fun y hy => ⟨⟨hy.1.1, hy.1.2.1⟩, hy.2⟩) (fun k hk => ⟨⟨(h.flt hm hk).1, h.fne hm hk⟩, (h.flt hm hk).2⟩)).monoS ?_
   rintro y ⟨⟨h1, h2, h3⟩, h4⟩ -
   refine ⟨h1, ?_, ?_⟩
   ·rcases hv with hv | hv
    ·rw [hv]; exact h2
    ·rw [hv]; intro e; injection e with e; omega
   ·intro z hz
    rcases List.mem_append.1 hz with hz | hz
    ·exact h3 z hz
    ·rw [List.mem_singleton.1 hz]
     intro e
     have := (hx.flt e).1
     omega
  ·have hx2 : RowAt w.heap.size (fun y => (w.heap.size ≤ y ∧ x.fb ≠ some y) ∧ y < w1.heap.size) w1 x t := hx.monoS fun y hy hl => ⟨hy, hl⟩
   have hK : Keep (fun y => w.heap.size ≤ y ∧ y < w1.heap.size) w1 w3 :=
    ((Keep.of_below ha).mono (fun _ h => h)).trans (Keep.of_grown hg3 (fun k e hk => by have := (h.row.lt e).2; omega))
   have h3 := (hx2.keepS hK (fun y hy => ⟨hy.1.1, hy.2⟩) (fun k hk => hx.flt hk)).monoS (T := Rest base v' (xs ++ [x])) (by
    rintro y ⟨⟨h1, h2⟩, h4⟩ -
    refine ⟨by omega, ?_, ?_⟩
    ·rcases hv with hv | hv
     ·rw [hv]; intro e; have := (h.row.lt e).2; omega
     ·rw [hv]; intro e; injection e with e; omega
    ·intro z hz
     rcases List.mem_append.1 hz with hz | hz
     ·intro e; have := (h.flt hz e).2; omega
     ·rw [List.mem_singleton.1 hz]; exact h2)
   exact ⟨h3.1, h3.2.1, h3.2.2.1.base_le hb, h3.2.2.2.1, h3.2.2.2.2⟩
theorem ReadC.book (h : ReadC base w v xs ts) (hl : ts.length ≤ 5000) (hf : ∀ t ∈ ts, t.fields.length ≤ 5000) : RSl 5 96 RType (fun y => base ≤ y) w [v] ts := by
 have hlen := h.len
 have key : Own base 40 5 RType (fun y => base ≤ y ∧ v.ownBlock ≠ some y) w v ts := by
  obtain ⟨css, h1, h2, h3, h4⟩ := h.row
  rw [hlen] at h1 h2
  refine ⟨css, h1, h2, fun k hk hc => hc.2 hk, fun k t cs ht hc => ?_⟩
  have hk : k < ts.length := by
   rcases Nat.lt_or_ge k ts.length with h | h
   ·exact h
   ·rw [List.getElem?_eq_none h] at ht; cases ht
  have hkx : k < xs.length := by omega
  obtain ⟨q1, q2⟩ := h4 k xs[k] cs (List.getElem?_eq_getElem hkx) hc
  have he : ts[k] = t := by rw [List.getElem?_eq_getElem hk] at ht; injection ht
  have hr := h.all.get hkx hk
  rw [he] at hr
  have e : cs = typeCells xs[k] := q2
  refine ⟨q1, xs[k].fv, _, _, ?_, ?_, (RSl.fair RInt.fair).mono hr.2.2.2.1 fun y hy _ => ⟨hy.1, hy.2.1⟩, (RSl.fair RItem.fair).mono hr.2.2.2.2 fun y hy _ => ⟨hy.1, hy.2.1⟩⟩
  rotate_left
  ·exact hr.2.2.1.read (S := fun y => base ≤ y ∧ v.ownBlock ≠ some y) (by_ := 56) RField.fair (fun _ h _ => h.elim) (fun k' e' => ⟨(hr.flt e').1, h.fne (List.getElem_mem hkx) e'⟩) (by have := hf t (he ▸ List.getElem_mem hk); omega)
  ·rw [e, ← hr.1, ← hr.2.1]; rfl
 refine (RSl.fair RType.fair).mono (key.read (S := fun y => base ≤ y) (by_ := 96) RType.fair (fun y hy _ => hy.1) (fun k hk => (key.lt hk).1) (by omega)) (fun y hy _ => hy)
theorem ReadC.sorted {ys : List TypeC} (h : ReadC base w v xs ts) (ho : Own base 40 5 RTypeC NoT w' v ys) (hp : ys.Perm xs) (hg : w.grownBy w' v.ownBlock) (hs : xs.length < 20 → ys = sortS ltRow xs) :
  ∃ ts', ReadC base w' v ys ts' ∧ ts'.length = ts.length ∧ (∀ t ∈ ts', t ∈ ts) ∧ (ts.length < 20 → ts' = sortS ltType ts) := by
 have hlen := h.len
 have hK : Keep (fun y => base ≤ y ∧ v.ownBlock ≠ some y) w w' := Keep.of_grown hg (fun k e hk => hk.2 e)
 have hrest : ∀ y, Rest base v xs y → Rest base v ys y := fun y hy => ⟨hy.1, hy.2.1, fun x hx => hy.2.2 x (hp.mem_iff.1 hx)⟩
 have hall : All2 (RowAt base (Rest base v ys) w') xs ts := h.all.mono fun x t hx hr => (hr.keepS hK (fun y hy => ⟨hy.1, hy.2.1⟩) (fun k hk => ⟨(hr.flt hk).1, h.fne hx hk⟩)).monoS fun y hy _ => hrest y hy
 have hap : ys.Pairwise ApartC := (hp.pairwise_iff (fun h => ApartC.symm h)).2 h.apart
 by_cases h20 : xs.length < 20
 ·have e := hs h20
  have h2 := sortS_rel (lt := ltRow) (lt' := ltType) (fun a b a' b' ha hb => by unfold ltRow ltType; rw [ha.1, hb.1]) hall
  refine ⟨sortS ltType ts, ⟨ho, hap, by rw [e]; rw [e] at h2; exact h2⟩, sortS_len ts, fun t ht => (sortS_perm ts).mem_iff.1 ht, fun _ => rfl⟩
 ·obtain ⟨m, hm⟩ := All2.of_left (P := fun x t => RowAt base (Rest base v ys) w' x t ∧ t ∈ ts) (l := ys) fun x hx => by
   obtain ⟨t, ht, hr⟩ := hall.left x (hp.mem_iff.1 hx)
   exact ⟨t, hr, ht⟩
  refine ⟨m, ⟨ho, hap, hm.mono fun _ _ _ h => h.1⟩, by rw [← hm.len, hp.length_eq, hlen], fun t ht => ?_, fun h => by omega⟩
  obtain ⟨i, hi, rfl⟩ := List.getElem_of_mem ht
  exact (hm.get (i := i) (by rw [hm.len]; exact hi) hi).2
end
theorem flatten_set {α : Type} {k : Nat} {css : List (List α)} (hall : ∀ x ∈ css, x.length = k) {i : Nat} (hi : i < css.length) {j : Nat} (hj : j < k) (u : α) : css.flatten.set (i * k + j) u = (css.set i (css[i].set j u)).flatten := by
 have e1 : css = css.take i ++ (css[i] :: css.drop (i + 1)) := by
  rw [← List.drop_eq_getElem_cons hi, List.take_append_drop]
 have e2 : css.set i (css[i].set j u) = css.take i ++ (css[i].set j u :: css.drop (i + 1)) := by
  rw [List.set_eq_take_append_cons_drop, if_pos hi]
 have hl : (css.take i).flatten.length = i * k := by
  rw [flatten_len k _ (fun x hx => hall x (List.mem_of_mem_take hx)), List.length_take, Nat.min_eq_left (by omega)]
 have hik : css[i].length = k := hall _ (List.getElem_mem hi)
 rw [e2]
 conv => lhs; rw [e1]
 rw [List.flatten_append, List.flatten_cons, List.flatten_append, List.flatten_cons, List.set_append, if_neg (by omega), hl, Nat.add_sub_cancel_left, List.set_append, if_pos (by omega)]
theorem Own.cell_ {α : Type} {base e sz g cap n : Nat} {enc : α → List Value} {w : World} {xs : List α} (h : Own base e sz (RFlat enc) NoT w (.slice (some ⟨g, 0, none⟩) n cap) xs) {i j : Nat} (hi : i < xs.length) (hj : j < sz) {u : Value} {x : α} (hx : enc x = (enc xs[i]).set j u) :
  Own base e sz (RFlat enc) NoT (w.setCell ⟨g, i * sz + j, none⟩ u) (.slice (some ⟨g, 0, none⟩) n cap) (xs.set i x) := by
 have hn := h.len
 subst hn
 obtain ⟨css, h1, h2, h3, h4⟩ := h
 have hall : ∀ c ∈ css, c.length = sz := by
  intro c hc
  obtain ⟨j, hj, rfl⟩ := List.getElem_of_mem hc
  exact (h4 j (xs[j]'(by omega)) _ (List.getElem?_eq_getElem (by omega)) (List.getElem?_eq_getElem hj)).1
 obtain ⟨a, -⟩ := h1.stored (i * sz + j) u
 refine ⟨css.set i ((css[i]'(by omega)).set j u), by rw [List.length_set, ← flatten_set hall (by omega) hj]; exact a, by simp [h2], h3, ?_⟩
 intro k y c hy hc
 by_cases ek : k = i
 ·subst ek
  rw [List.getElem?_set_self (by omega)] at hy hc
  simp only [Option.some.injEq] at hy hc
  obtain ⟨b1, b2⟩ := h4 k _ _ (List.getElem?_eq_getElem hi) (List.getElem?_eq_getElem (by omega))
  subst hy hc
  have b2' : css[k] = enc xs[k] := b2
  exact ⟨by rw [List.length_set]; exact b1, show _ = enc x by rw [hx, b2']⟩
 ·rw [List.getElem?_set_ne (fun h => ek h.symm)] at hy hc
  obtain ⟨b1, b2⟩ := h4 k y c hy hc
  exact ⟨b1, b2⟩
section
variable {base : Nat} {w w' : World} {v : Value} {xs : List TypeC} {ts : List TypeD}
theorem ReadC.kind (h : ReadC base w v xs ts) {i k g : Nat} (hi : i < xs.length) (hi' : i < ts.length) (hk : k < ts[i].fields.length) (hg : xs[i].F = some ⟨g, 0, none⟩) (κ : Int) :
  ReadC base (w.setCell ⟨g, k * 5 + 3, none⟩ (.int .i64 κ)) v xs (ts.set i { ts[i] with fields := ts[i].fields.set k { ts[i].fields[k] with kind := κ } }) := by
 have hfb : xs[i].fb = some g := by unfold TypeC.fb TypeC.fv; rw [hg]; rfl
 have hm := List.getElem_mem hi
 have hK : Keep (fun y => y ≠ g) w (w.setCell ⟨g, k * 5 + 3, none⟩ (.int .i64 κ)) := Keep.setCell w _ (fun h => h rfl)
 refine ⟨h.row.keepB RTypeC.fair hK (fun y hy e => h.fne hm hfb (by rw [hy, e])), h.apart, All2.of_get (by rw [List.length_set]; exact h.len) ?_⟩
 intro j h1 h2
 rw [List.length_set] at h2
 have hj := h.all.get h1 h2
 by_cases e : i = j
 ·subst e
  rw [List.getElem_set_self]
  obtain ⟨q1, q2, q3, q4, q5⟩ := hj
  have hv : xs[i].fv = .slice (some ⟨g, 0, none⟩) xs[i].f xs[i].p := by unfold TypeC.fv; rw [hg]
  rw [hv] at q3
  refine ⟨q1, q2, ?_, (RSl.fair RInt.fair).keep q4 (hK.mono fun y hy e => hy.2.2 _ hm (by rw [e]; exact hfb)), (RSl.fair RItem.fair).keep q5 (hK.mono fun y hy e => hy.2.2 _ hm (by rw [e]; exact hfb))⟩
  rw [hv]
  exact q3.cell_ hk (by decide) rfl
 ·rw [List.getElem_set_ne e]
  refine hj.keepS hK (fun y hy e' => hy.2.2 _ hm (by rw [e']; exact hfb)) (fun y hy e' => ?_)
  rw [e'] at hy
  rcases Nat.lt_or_gt_of_ne e with hlt | hlt
  ·exact List.pairwise_iff_getElem.1 h.apart i j hi h1 hlt g hfb hy
  ·exact List.pairwise_iff_getElem.1 h.apart j i h1 hi hlt g hy hfb
theorem ReadC.lies (h : ReadC base w v xs ts) {i : Nat} (hi : i < xs.length) : ∃ g cap, v = .slice (some ⟨g, 0, none⟩) xs.length cap ∧ xs.length ≤ cap ∧ g < w.heap.size ∧ Lies w g (i * 5) (typeCells xs[i]) := by
 obtain ⟨A, cap, hv, hc⟩ := h.row.form
 have hr := h.row
 rw [hv] at hr
 obtain ⟨g, hA, -, hgl⟩ := hr.there_ (by omega)
 subst hA
 obtain ⟨cs, -, h2, h3⟩ := hr.cells hi
 have e : cs = typeCells xs[i] := h2
 rw [e] at h3
 exact ⟨g, cap, hv, hc, hgl, h3⟩
theorem ReadC.field (h : ReadC base w v xs ts) {i k : Nat} (hi : i < xs.length) (hi' : i < ts.length) (hk : k < ts[i].fields.length) : ∃ g, xs[i].F = some ⟨g, 0, none⟩ ∧ g < w.heap.size ∧ base ≤ g ∧ xs[i].f = ts[i].fields.length ∧ xs[i].f ≤ xs[i].p ∧ Lies w g (k * 5) (fieldCells ts[i].fields[k]) ∧ ∀ o, w.frozen? ⟨g, o, none⟩ = false := by
 have hj := (h.all.get hi hi').2.2.1
 obtain ⟨A, cap, hv, hc⟩ := hj.form
 injection hv with e1 e2 e3
 have hj' : Own base 44 5 RField NoT w (.slice xs[i].F xs[i].f xs[i].p) ts[i].fields := hj
 obtain ⟨g, hA, hbg, hgl⟩ := hj'.there_ (by omega)
 rw [hA] at hj'
 obtain ⟨cs, -, h2, h3⟩ := hj'.cells hk
 have e : cs = fieldCells ts[i].fields[k] := h2
 rw [e] at h3
 exact ⟨g, hA, hgl, hbg, e2, by omega, h3, fun o => hj'.frozen o⟩
theorem ReadC.flen (h : ReadC base w v xs ts) {i : Nat} (hi : i < xs.length) (hi' : i < ts.length) : xs[i].f = ts[i].fields.length := by
 have hj' : Own base 44 5 RField NoT w (.slice xs[i].F xs[i].f xs[i].p) ts[i].fields := (h.all.get hi hi').2.2.1
 exact hj'.len
end
end Go.Proofs.YtfobdbhmfohfnaaGreatDoor
namespace Go.Proofs.YtfobdbhmfohfnaaGreatDoor
theorem items_m : ∀ (k : Nat) (r : Rd) (acc : List ItemD), Small r → Small (itemsF k r acc).2 ∧ rdM (itemsF k r acc).2 ≤ rdM r
 | 0, _, _, h => ⟨h, Nat.le_refl _⟩
 | k + 1, r, acc, h => by
  rw [itemsF]
  split
  ·next hc =>
   have a := rdM_number hc.1
   have b := rdM_word r.number.2
   have c := rdM_take r.number.2.word.2 wEnd
   have ih := items_m k (r.number.2.word.2.take wEnd) (acc ++ [⟨r.number.2.word.1, r.number.1⟩]) (h.number.word.take _)
   exact ⟨ih.1, by omega⟩
  ·exact ⟨h, Nat.le_refl _⟩
theorem gone_m : ∀ (k : Nat) (r : Rd) (acc : List Int), Small r → Small (goneRF k r acc).2 ∧ rdM (goneRF k r acc).2 ≤ rdM r
 | 0, _, _, h => ⟨h, Nat.le_refl _⟩
 | k + 1, r, acc, h => by
  rw [goneRF]
  split
  ·next hc =>
   have a := rdM_number hc.1
   have ih := gone_m k r.number.2 (acc ++ [r.number.1]) h.number
   exact ⟨ih.1, by omega⟩
  ·exact ⟨h, Nat.le_refl _⟩
theorem lines_m : ∀ (k : Nat) (r : Rd) (fs : List FieldD) (gs : List Int), Small r → Small (linesF k r fs gs).2.2 ∧ rdM (linesF k r fs gs).2.2 ≤ rdM r
 | 0, _, _, _, h => ⟨h, Nat.le_refl _⟩
 | k + 1, r, fs, gs, h => by
  rw [linesF]
  split
  ·next hc =>
   split
   ·have g := gone_m (r.l.length + 2) r.next.2 gs h.next.1
    have a := rdM_next r
    have c := rdM_take (goneRF (r.l.length + 2) r.next.2 gs).2 wEnd
    have ih := lines_m k ((goneRF (r.l.length + 2) r.next.2 gs).2.take wEnd) fs (goneRF (r.l.length + 2) r.next.2 gs).1 (g.1.take _)
    exact ⟨ih.1, by omega⟩
   ·have a := rdM_field hc.1
    have c := rdM_take (fieldRF r).2 wEnd
    have ih := lines_m k ((fieldRF r).2.take wEnd) (fs ++ [(fieldRF r).1]) gs (h.field.take _)
    exact ⟨ih.1, by omega⟩
  ·exact ⟨h, Nat.le_refl _⟩
theorem enum_m {r : Rd} (h : Small r) : Small (enumRF r).2 ∧ rdM (enumRF r).2 ≤ rdM r := by
 have g := items_m ((r.word.2.take wOpen).l.length + 2) (r.word.2.take wOpen) [] (h.word.take _)
 have a := rdM_word r
 have b := rdM_take r.word.2 wOpen
 have c := rdM_take (itemsF ((r.word.2.take wOpen).l.length + 2) (r.word.2.take wOpen) []).2 wShut
 refine ⟨g.1.take wShut, ?_⟩
 show rdM ((itemsF ((r.word.2.take wOpen).l.length + 2) (r.word.2.take wOpen) []).2.take wShut) ≤ rdM r
 omega
theorem message_m {r : Rd} (h : Small r) : Small (messageRF r).2 ∧ rdM (messageRF r).2 ≤ rdM r := by
 have g := lines_m ((r.word.2.take wOpen).l.length + 2) (r.word.2.take wOpen) [] [] (h.word.take _)
 have a := rdM_word r
 have b := rdM_take r.word.2 wOpen
 have c := rdM_take (linesF ((r.word.2.take wOpen).l.length + 2) (r.word.2.take wOpen) [] []).2.2 wShut
 refine ⟨g.1.take wShut, ?_⟩
 show rdM ((linesF ((r.word.2.take wOpen).l.length + 2) (r.word.2.take wOpen) [] []).2.2.take wShut) ≤ rdM r
 omega
theorem types_stop {r : Rd} (k : Nat) (us : List TypeD) (h : ¬ (0 < r.l.length ∧ r.bad = false)) : typesRF k r us = (us, r) := by
 cases k with
 | zero => rfl
 | succ k => rw [typesRF, if_neg h]
theorem types_message {r : Rd} {k : Nat} (us : List TypeD) (h0 : 0 < r.l.length) (h1 : r.bad = false) (h2 : r.next.1 = wMessage) (h3 : Small r) (h4 : rdM r ≤ k) :
  ∃ k', rdM (messageRF r.next.2).2 ≤ k' ∧ typesRF k r us = typesRF k' (messageRF r.next.2).2 (us ++ [(messageRF r.next.2).1]) := by
 have a := rdM_less h1
 have b := (message_m h3.next.1).2
 cases k with
 | zero => omega
 | succ k => exact ⟨k, by omega, by rw [typesRF, if_pos ⟨h0, h1⟩, if_pos h2]⟩
theorem types_enum {r : Rd} {k : Nat} (us : List TypeD) (h0 : 0 < r.l.length) (h1 : r.bad = false) (h2 : r.next.1 ≠ wMessage) (h2' : r.next.1 = wEnum) (h3 : Small r) (h4 : rdM r ≤ k) :
  ∃ k', rdM (enumRF r.next.2).2 ≤ k' ∧ typesRF k r us = typesRF k' (enumRF r.next.2).2 (us ++ [(enumRF r.next.2).1]) := by
 have a := rdM_less h1
 have b := (enum_m h3.next.1).2
 cases k with
 | zero => omega
 | succ k => exact ⟨k, by omega, by rw [typesRF, if_pos ⟨h0, h1⟩, if_neg h2, if_pos h2']⟩
theorem types_bad {r : Rd} {k : Nat} (us : List TypeD) (h0 : 0 < r.l.length) (h1 : r.bad = false) (h2 : r.next.1 ≠ wMessage) (h2' : r.next.1 ≠ wEnum) (h4 : rdM r ≤ k) : typesRF k r us = typesRF 0 ⟨r.next.2.l, true⟩ us := by
 have a := rdM_less h1
 cases k with
 | zero => omega
 | succ k =>
  have e : typesRF (k + 1) r us = (us, ⟨r.next.2.l, true⟩) := by rw [typesRF, if_pos ⟨h0, h1⟩, if_neg h2, if_neg h2']
  rw [e]; rfl
def parseR (q : List TypeD × Rd) : BookD × Int :=
 if q.2.bad then ([], 1)
 else if goodF (fixF (sortS ltType q.1)) ≠ 0 then ([], goodF (fixF (sortS ltType q.1)))
 else (fixF (sortS ltType q.1), 0)
theorem parseF_none {s : List UInt8} (h : s.length ≤ 4000) (h2 : spl s = none) : parseF s = ([], 1) := by
 rw [parseF, if_neg (by omega), show splitF s.length s = none from h2]
theorem parseF_some {s : List UInt8} {l : List ByteArray} (h : s.length ≤ 4000) (h2 : spl s = some l) : parseF s = parseR (typesRF (l.length + 2) ⟨l, false⟩ []) := by
 rw [parseF, if_neg (by omega), show splitF s.length s = some l from h2]; rfl
theorem splitF_small : ∀ (k : Nat) (s : List UInt8) (l : List ByteArray), splitF k s = some l → l.length ≤ s.length ∧ ∀ x ∈ l, x.size ≤ s.length
 | 0, _, l, h => by
  rw [splitF] at h; injection h with h; subst h
  exact ⟨Nat.zero_le _, fun x hx => by cases hx⟩
 | _ + 1, [], l, h => by
  rw [splitF] at h; injection h with h; subst h
  exact ⟨Nat.zero_le _, fun x hx => by cases hx⟩
 | k + 1, c :: s, l, h => by
  have key : ∀ (s' : List UInt8) (wd : ByteArray), s'.length ≤ s.length → wd.size ≤ s.length + 1 → (splitF k s').map (wd :: ·) = some l → l.length ≤ (c :: s).length ∧ ∀ x ∈ l, x.size ≤ (c :: s).length := by
   intro s' wd h1 h2 h3
   cases hs : splitF k s' with
   | none => rw [hs] at h3; cases h3
   | some m =>
    rw [hs] at h3
    injection h3 with h3
    subst h3
    obtain ⟨a, b⟩ := splitF_small k s' m hs
    refine ⟨by simp; omega, fun x hx => ?_⟩
    rcases List.mem_cons.1 hx with rfl | hx
    ·simpa using h2
    ·have := b x hx; simp; omega
  have hd : ∀ (p : UInt8 → Bool), (s.dropWhile p).length ≤ s.length ∧ (s.takeWhile p).length ≤ s.length := by
   intro p
   have := congrArg List.length (List.takeWhile_append_dropWhile (p := p) (l := s))
   rw [List.length_append] at this
   omega
  rw [splitF] at h
  split at h
  ·obtain ⟨a, b⟩ := splitF_small k s l h
   exact ⟨by simp; omega, fun x hx => by have := b x hx; simp; omega⟩
  ·split at h
   ·exact key s ⟨#[c]⟩ (Nat.le_refl _) (by show 1 ≤ _; omega) h
   ·split at h
    ·exact key _ _ (hd isLet).1 (by show ((c :: s.takeWhile isLet).toArray).size ≤ _; simp; exact (hd isLet).2) h
    ·split at h
     ·exact key _ _ (hd isDig).1 (by show ((c :: s.takeWhile isDig).toArray).size ≤ _; simp; exact (hd isDig).2) h
     ·cases h
theorem spl_small {s : List UInt8} {l : List ByteArray} (h : spl s = some l) (hs : s.length ≤ 4000) : Small ⟨l, false⟩ := by
 obtain ⟨a, b⟩ := splitF_small _ _ _ h
 exact ⟨Nat.le_trans a hs, fun x hx => Nat.le_trans (b x hx) hs⟩
end Go.Proofs.YtfobdbhmfohfnaaGreatDoor
namespace Go.Proofs.YtfobdbhmfohfnaaGreatDoor
open Go.RowKit
def withF (t : TypeD) (L : List FieldD) : TypeD := { t with fields := L }
theorem heads_set : ∀ (b : BookD) (i : Nat) (h : i < b.length) (L : List FieldD), heads (b.set i (withF b[i] L)) = heads b
 | [], i, h, _ => by simp at h
 | t :: b, 0, _, L => rfl
 | t :: b, i + 1, h, L => by
  have := heads_set b i (by simpa using h) L
  simp only [heads, List.set_cons_succ, List.map_cons, List.getElem_cons_succ] at this ⊢
  rw [this]
def part {α : Type} (f : α → α) (l : List α) (n : Nat) : List α := (l.take n).map f ++ l.drop n
theorem part_zero {α : Type} (f : α → α) (l : List α) : part f l 0 = l := by simp [part]
theorem part_all {α : Type} (f : α → α) (l : List α) {n : Nat} (h : l.length ≤ n) : part f l n = l.map f := by
 unfold part; rw [List.take_of_length_le h, List.drop_eq_nil_of_le h, List.append_nil]
theorem part_len {α : Type} (f : α → α) (l : List α) (n : Nat) : (part f l n).length = l.length := by
 simp [part]; omega
theorem part_at {α : Type} (f : α → α) (l : List α) {n : Nat} (h : n < l.length) : (part f l n)[n]'(by rw [part_len]; exact h) = l[n] := by
 have : (part f l n)[n]? = some l[n] := by
  unfold part
  rw [List.getElem?_append_right (by simp; omega)]
  simp [List.length_take, Nat.min_eq_left (Nat.le_of_lt h), List.getElem?_eq_getElem h]
 rw [List.getElem?_eq_getElem (by rw [part_len]; exact h)] at this
 injection this
theorem part_succ {α : Type} (f : α → α) (l : List α) {n : Nat} (h : n < l.length) : (part f l n).set n (f l[n]) = part f l (n + 1) := by
 unfold part
 rw [List.set_append, if_neg (by simp; omega)]
 have e : n - (List.map f (List.take n l)).length = 0 := by simp; omega
 rw [e, List.drop_eq_getElem_cons h, List.set_cons_zero, List.take_succ_eq_append_getElem h, List.map_append]
 simp
theorem part_same {α : Type} (f : α → α) (l : List α) {n : Nat} (h : n < l.length) (hf : f l[n] = l[n]) : part f l (n + 1) = part f l n := by
 have := part_succ f l h
 rw [hf] at this
 rw [← this]
 refine List.ext_getElem (by simp) fun i h1 h2 => ?_
 by_cases e : n = i
 ·subst e; rw [List.getElem_set_self, part_at f l h]
 ·rw [List.getElem_set_ne e]
theorem heads_part (e : ByteArray → Bool) (b : BookD) (n : Nat) : heads (part (mendT e) b n) = heads b := by
 have h : heads (part (mendT e) b n) = heads (b.take n) ++ heads (b.drop n) := by
  unfold part
  rw [← heads_mend e (b.take n)]
  simp [heads]
 rw [h]
 simp only [heads, ← List.map_append, List.take_append_drop]
theorem part_mem {α : Type} {f : α → α} {l : List α} {n : Nat} {x : α} (h : x ∈ part f l n) : ∃ u ∈ l, x = f u ∨ x = u := by
 rcases List.mem_append.1 h with h | h
 ·obtain ⟨u, hu, rfl⟩ := List.mem_map.1 h
  exact ⟨u, List.mem_of_mem_take hu, .inl rfl⟩
 ·exact ⟨x, List.mem_of_mem_drop h, .inr rfl⟩
theorem part_short {e : ByteArray → Bool} {ts : List TypeD} {n i : Nat} {t0 : TypeD} {L : List FieldD} (h : ∀ t ∈ ts, ShortT t) (hL : L.length ≤ 5000) : ∀ t ∈ (part (mendT e) ts n).set i (withF t0 L), t.fields.length ≤ 5000 := by
 intro t ht
 rcases List.mem_or_eq_of_mem_set ht with ht | rfl
 ·obtain ⟨u, hu, rfl | rfl⟩ := part_mem ht
  ·show (u.fields.map _).length ≤ 5000
   rw [List.length_map]; exact (h u hu).2.1
  ·exact (h _ hu).2.1
 ·exact hL
theorem part_enum {ts : List TypeD} {n : Nat} (hn : n < ts.length) (L : List FieldD) (name : ByteArray) : enumOf ((part (mendT (enumOf ts)) ts n).set n (withF ts[n] L)) name = enumOf ts name := by
 refine enumOf_heads _ _ ?_ name
 have h1 : n < (part (mendT (enumOf ts)) ts n).length := by rw [part_len]; exact hn
 have := heads_set (part (mendT (enumOf ts)) ts n) n h1 L
 rw [part_at _ _ hn] at this
 rw [this, heads_part]
section
variable {base : Nat} {w w' : World} {v : Value} {xs : List TypeC} {ts : List TypeD}
theorem ReadC.kindW {t : TypeD} {L : List FieldD} {i k g : Nat} (h : ReadC base w v xs (ts.set i (withF t L))) (hi : i < xs.length) (hk : k < L.length) (hg : xs[i].F = some ⟨g, 0, none⟩) (κ : Int) :
  ReadC base (w.setCell ⟨g, k * 5 + 3, none⟩ (.int .i64 κ)) v xs (ts.set i (withF t (L.set k { L[k] with kind := κ }))) := by
 have hl := h.len
 have hi' : i < (ts.set i (withF t L)).length := by omega
 have he : (ts.set i (withF t L))[i] = withF t L := List.getElem_set_self hi'
 have hke : k < (ts.set i (withF t L))[i].fields.length := by rw [he]; exact hk
 have := h.kind hi hi' hke hg κ
 simp only [List.set_set] at this
 have e2 : ({ (ts.set i (withF t L))[i] with fields := (ts.set i (withF t L))[i].fields.set k { (ts.set i (withF t L))[i].fields[k] with kind := κ } } : TypeD) = withF t (L.set k { L[k] with kind := κ }) := by
  simp only [he]; rfl
 rw [e2] at this
 exact this
theorem ReadC.fieldW {t : TypeD} {L : List FieldD} {i k : Nat} (h : ReadC base w v xs (ts.set i (withF t L))) (hi : i < xs.length) (hk : k < L.length) : ∃ g, xs[i].F = some ⟨g, 0, none⟩ ∧ g < w.heap.size ∧ base ≤ g ∧ xs[i].f = L.length ∧ xs[i].f ≤ xs[i].p ∧ Lies w g (k * 5) (fieldCells L[k]) ∧ ∀ o, w.frozen? ⟨g, o, none⟩ = false := by
 have hl := h.len
 have hi' : i < (ts.set i (withF t L)).length := by omega
 have he : (ts.set i (withF t L))[i] = withF t L := List.getElem_set_self hi'
 have hke : k < (ts.set i (withF t L))[i].fields.length := by rw [he]; exact hk
 obtain ⟨g, h1, h2, h3, h4, h5, h6, h7⟩ := h.field hi hi' hke
 have e4 : (ts.set i (withF t L))[i].fields.length = L.length := by rw [he]; rfl
 have e6 : (ts.set i (withF t L))[i].fields[k] = L[k] := by simp only [he]; rfl
 rw [e4] at h4
 rw [e6] at h6
 exact ⟨g, h1, h2, h3, h4, h5, h6, h7⟩
theorem withF_self (t : TypeD) : withF t t.fields = t := rfl
end
end Go.Proofs.YtfobdbhmfohfnaaGreatDoor
