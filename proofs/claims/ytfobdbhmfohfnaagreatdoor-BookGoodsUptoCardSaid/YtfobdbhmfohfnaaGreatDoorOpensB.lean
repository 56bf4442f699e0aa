/- Several texts of walks and laws in one file; what each proves stands at its head. -/
import Derived.Test.YtfobdbhmfohfnaaGreatDoorOpens
import Derived.Test.YtfobdbhmfohfnaaGreatDoorRefGood
import Derived.Shelf.Vars
set_option linter.all false
set_option maxRecDepth 100000
set_option maxHeartbeats 8000000
namespace Go.Proofs.YtfobdbhmfohfnaaGreatDoor
open Go.RowKit Go.ChangeShapes Go.WideShapes Go.Deep
theorem open_slice_by {α : Type} {P : Program} {t e sz by_ : Nat} {R : Rel α} {H : Type} {enc : TypeId × Value → H} {W : World} {spare : Nat → Bool} {held : Bool} {fuel : Nat} {cs : List Value} {x : DataW H × List MemPlace} {Q : DataW H → α → Prop}
  (ht : P.underlying t = some (.slice e)) (hsz : P.cellsOf e = sz) (h0 : 0 < sz) (hby : P.bytesOf e = by_)
  (hw : ∀ n ∈ DataW.weights P t x.1, n ≤ reachBytes) (hx : DataW.trod enc P W 0 spare held fuel t cs = some x)
  (ho : ∀ (n : Nat) (cs' : List Value) (x' : DataW H × List MemPlace), (∃ elems sp, x.1 = .slice elems sp ∧ x'.1 ∈ elems) → (∀ q ∈ DataW.weights P e x'.1, q ≤ reachBytes) → DataW.trod enc P W 0 spare held n e cs' = some x' → ∃ y, cs'.length = sz ∧ R (Old W) W cs' y ∧ Q x'.1 y) :
  ∃ ys, cs.length = 1 ∧ RSl sz by_ R (Old W) W cs ys ∧ ((x.1 = .nil ∧ ys = []) ∨ ∃ elems sp, x.1 = .slice elems sp ∧ elems.length = ys.length ∧ ∀ i (h : i < elems.length) (h' : i < ys.length), Q elems[i] ys[i]) := by
 rcases open_slice ht hx with ⟨rfl, rfl⟩ | ⟨a, len, cap, m, n, D, Pl, rfl, hb, hl, hm, hmm, rfl, hi⟩
 ·exact ⟨[], rfl, RSl.nil_, .inl ⟨rfl, rfl⟩⟩
 ·subst hsz
  have hlm : len ≤ m := by rw [hmm]; split <;> omega
  have key : ∀ i, i < len → ∃ y cs', W.cells? 0 (a.add (i * P.cellsOf e)) (P.cellsOf e) = some cs' ∧ cs'.length = P.cellsOf e ∧ R (Old W) W cs' y ∧ Q (D i) y := by
   intro i hil
   obtain ⟨cs', hc, htr⟩ := hi i (by omega)
   have hin : D i ∈ (List.range len).map D := List.mem_map.2 ⟨i, by simpa using hil, rfl⟩
   obtain ⟨y, h1, h2, h3⟩ := ho n cs' (D i, Pl i) ⟨_, _, rfl, hin⟩ (fun q hq => hw q (by
    simp only [DataW.weights, ht, List.mem_cons, List.mem_append]
    exact .inr (.inl (weights_all hin hq)))) htr
   exact ⟨y, cs', hc, h1, h2, h3⟩
  let f : Nat → Option α := fun i => if h : i < len then some (key i h).choose else none
  have hf : ∀ i (h : i < len), f i = some (key i h).choose := fun i h => by simp only [f]; rw [dif_pos h]
  let ys : List α := (List.range len).pmap (fun i (h : i < len) => (key i h).choose) (fun i hi => by simpa using hi)
  have hyl : ys.length = len := by simp [ys]
  have hys : ∀ i (h : i < len), ys[i]? = some (key i h).choose := by
   intro i h
   simp [ys, List.getElem?_pmap, List.getElem?_range h]
  refine ⟨ys, rfl, ⟨some a, cap, by rw [hyl], by omega, ?_, ?_⟩, .inr ⟨_, _, rfl, by simp [hyl], fun i h h' => ?_⟩⟩
  ·have := hw ((((List.range len).map D).length + ((List.range (m - len)).map fun j => D (len + j)).length) * P.bytesOf e) (by simp [DataW.weights, ht])
   simp only [List.length_map, List.length_range, reachBytes] at this
   rw [hyl, ← hby]
   refine Nat.le_trans (Nat.mul_le_mul_right _ ?_) this
   omega
  ·intro k y hk
   have hkl : k < len := by
    rcases Nat.lt_or_ge k len with h | h
    ·exact h
    ·rw [List.getElem?_eq_none (by omega)] at hk; cases hk
   rw [hys k hkl] at hk
   injection hk with hk
   subst hk
   obtain ⟨cs', hc, hcl, hr, _⟩ := (key k hkl).choose_spec
   obtain ⟨_, _, hat⟩ := World.cells?_some hc
   have hab : a.spot = none := by
    obtain ⟨cs0, hc0, hcl0, _, _⟩ := (key 0 (by omega)).choose_spec
    obtain ⟨_, _, hat0⟩ := World.cells?_some hc0
    have h00 := hat0 0 h0
    rw [List.getElem?_eq_getElem (by omega)] at h00
    have h1 := World.cell?_spot h00
    simpa [Addr.add] using h1
   have h00 := hat 0 h0
   rw [List.getElem?_eq_getElem (by omega)] at h00
   obtain ⟨g, o, sp⟩ := a
   simp only at hab
   subst hab
   have hadd : ∀ o n, (⟨g, o, none⟩ : Addr).add n = ⟨g, o + n, none⟩ := by intro o n; unfold Addr.add; split <;> simp_all
   refine ⟨g, o, cs', rfl, ?_, ?_, hcl, hr, fun j hj => ?_⟩
   ·have := World.block_lt_of_cell? W _ h00
    simpa [Old, hadd] using this
   ·have := World.block_lt_of_cell? W _ h00
    simpa [hadd] using this
   ·have := hat j (by omega)
    rw [hadd, hadd] at this
    exact this
  ·have hil : i < len := by simpa using h
   have h1 := hys i hil
   rw [List.getElem?_eq_getElem h'] at h1
   injection h1 with h1
   rw [h1]
   have : ((List.range len).map D)[i] = D i := by simp
   rw [this]
   obtain ⟨_, _, _, _, hg⟩ := (key i hil).choose_spec
   exact hg
end Go.Proofs.YtfobdbhmfohfnaaGreatDoor
namespace Go.Proofs.YtfobdbhmfohfnaaGreatDoor
open Go.RowKit Go.ChangeShapes Go.WideShapes Go.ChangeAt
theorem bulk_mem {H : Type} {d : DataW H} : ∀ {l : List (DataW H)}, d ∈ l → Rows.uptoBulk d ≤ Rows.uptoBulkAll l
 | [], h => by cases h
 | x :: r, h => by
  rw [Rows.uptoBulkAll]
  rcases List.mem_cons.1 h with rfl | h
  ·omega
  ·have := bulk_mem h; omega
end Go.Proofs.YtfobdbhmfohfnaaGreatDoor
namespace Go.Proofs.YtfobdbhmfohfnaaGreatDoor
open Go.RowKit Go.ChangeShapes Go.WideShapes Go.ChangeAt
theorem bulk_one {H : Type} (d : DataW H) : 1 ≤ Rows.uptoBulk d := by
 cases d with
 | lit x => cases x <;> simp [Rows.uptoBulk]
 | _ => simp [Rows.uptoBulk]
theorem bulk_len {H : Type} : ∀ l : List (DataW H), l.length ≤ Rows.uptoBulkAll l
 | [] => by simp
 | d :: l => by
  have := bulk_len l
  have := bulk_one d
  rw [Rows.uptoBulkAll, List.length_cons]; omega
theorem open_type_bulk {H : Type} {enc : TypeId × Value → H} {W : World} {spare : Nat → Bool} {held : Bool} (fuel : Nat) (cs : List Value) (x : DataW H × List MemPlace) (hw : ∀ q ∈ DataW.weights Tryz.prog 40 x.1, q ≤ reachBytes)
  (h : DataW.trod enc Tryz.prog W 0 spare held fuel 40 cs = some x) :
  ∃ t, cs.length = 5 ∧ RType (Old W) W cs t ∧ ((SizeOk t.name ∧ (∀ f ∈ t.fields, SizeOk f.name ∧ SizeOk f.type) ∧ (∀ x ∈ t.items, SizeOk x.name)) ∧ t.items.length ≤ Rows.uptoBulk x.1) := by
 have hs := Tryz.underlying40
 have hl := open_struct_len hs h
 have hc : Tryz.prog.cellsOf 40 = 5 := by kernel_rfl
 rw [hc] at hl
 obtain ⟨a, _, ha, has⟩ := open_field hs hw h 0 rfl (by kernel_rfl) (opens_str Tryz.underlying9)
 obtain ⟨b, _, hb, _⟩ := open_field hs hw h 1 rfl (by kernel_rfl) (opens_bool Tryz.underlying4)
 obtain ⟨c, _, hc, hcs⟩ := open_field hs hw h 2 rfl (by kernel_rfl) (opens_slice (sz := 5) (by_ := 56) Tryz.underlying36 (by kernel_rfl) (by decide) (by kernel_rfl) opens_field)
 obtain ⟨d, _, hd, _⟩ := open_field hs hw h 3 rfl (by kernel_rfl) (opens_slice (sz := 1) (by_ := 8) Tryz.underlying37 (by kernel_rfl) (by decide) (by kernel_rfl) (opens_int Tryz.underlying3))
 obtain ⟨ys, m, _, rfl, _, hyl, hat⟩ := DataW.trod_struct hs h
 have h4 := hat 4 _ rfl
 have hil : 4 < ys.length := by rw [hyl]; decide
 rw [List.getElem?_eq_getElem hil] at h4
 have hbk : Rows.uptoBulk ys[4].1 + 1 ≤ Rows.uptoBulk (.agg (ys.map (·.1))) := by
  rw [Rows.uptoBulk]
  have := bulk_mem (List.mem_map.2 ⟨ys[4], List.getElem_mem hil, rfl⟩ : ys[4].1 ∈ ys.map (·.1))
  omega
 obtain ⟨l, _, hll, hq⟩ := open_slice_by (sz := 2) (by_ := 24) (R := RItem) (Q := fun _ y => SizeOk y.name) Tryz.underlying38 (by kernel_rfl) (by decide) (by kernel_rfl) (fun q hq => hw q (by
  simp only [DataW.weights, hs]
  refine DataW.weights_mem_each (j := 4) (t := 38) (d := ys[4].1) ?_ ?_ q hq
  ·rfl
  ·rw [List.getElem?_map, List.getElem?_eq_getElem hil]; rfl)) h4 (fun k cs' x' _ hw' ht' => opens_item H enc W spare held k cs' x' hw' ht')
 have hfin : (∀ x ∈ l, SizeOk x.name) ∧ l.length ≤ Rows.uptoBulk (.agg (ys.map (·.1))) := by
  rcases hq with ⟨_, rfl⟩ | ⟨elems, sp, he, hlen, hq⟩
  ·exact ⟨fun x hx => by (cases hx), by simp⟩
  ·refine ⟨fun x hx => ?_, ?_⟩
   ·obtain ⟨i, hi, rfl⟩ := List.getElem_of_mem hx
    exact hq i (by omega) hi
   ·have := bulk_len elems
    rw [he, Rows.uptoBulk] at hbk
    omega
 match cs, hl with
 | [c0, c1, c2, c3, c4], _ =>
  have e0 : c0 = .string a := by simpa [RStr, RFlat] using ha
  have e1 : c1 = .bool b := by simpa [RFlat] using hb
  subst e0 e1
  exact ⟨⟨a, b, c, d, l⟩, rfl, ⟨c2, c3, c4, rfl, hc, hd, hll⟩, ⟨has, hcs, hfin.1⟩, hfin.2⟩
theorem open_book_bulk {H : Type} {enc : TypeId × Value → H} {W : World} {spare : Nat → Bool} {held : Bool} (fuel : Nat) (cs : List Value) (x : DataW H × List MemPlace) (hw : ∀ q ∈ DataW.weights Tryz.prog 24 x.1, q ≤ reachBytes)
  (h : DataW.trod enc Tryz.prog W 0 spare held fuel 24 cs = some x) :
  ∃ b, cs.length = 1 ∧ RSl 5 96 RType (Old W) W cs b ∧ (BookOk b ∧ ∀ t ∈ b, t.items.length ≤ Rows.uptoBulk x.1) := by
 have hs := Tryz.underlying24
 have hl := open_struct_len hs h
 have hc : Tryz.prog.cellsOf 24 = 1 := by kernel_rfl
 rw [hc] at hl
 obtain ⟨ys, m, _, rfl, _, hyl, hat⟩ := DataW.trod_struct hs h
 have h4 := hat 0 _ rfl
 have hil : 0 < ys.length := by rw [hyl]; decide
 rw [List.getElem?_eq_getElem hil] at h4
 have hbk : Rows.uptoBulk ys[0].1 + 1 ≤ Rows.uptoBulk (.agg (ys.map (·.1))) := by
  rw [Rows.uptoBulk]
  have := bulk_mem (List.mem_map.2 ⟨ys[0], List.getElem_mem hil, rfl⟩ : ys[0].1 ∈ ys.map (·.1))
  omega
 obtain ⟨l, _, hll, hq⟩ := open_slice_by (sz := 5) (by_ := 96) (R := RType) (Q := fun d t => (SizeOk t.name ∧ (∀ f ∈ t.fields, SizeOk f.name ∧ SizeOk f.type) ∧ (∀ x ∈ t.items, SizeOk x.name)) ∧ t.items.length ≤ Rows.uptoBulk d) Tryz.underlying22 (by kernel_rfl) (by decide) (by kernel_rfl) (fun q hq => hw q (by
  simp only [DataW.weights, hs]
  refine DataW.weights_mem_each (j := 0) (t := 22) (d := ys[0].1) ?_ ?_ q hq
  ·rfl
  ·rw [List.getElem?_map, List.getElem?_eq_getElem hil]; rfl)) h4 (fun k cs' x' _ hw' ht' => open_type_bulk k cs' x' hw' ht')
 match cs, hl with
 | [c0], _ =>
  refine ⟨l, rfl, hll, ?_, ?_⟩
  ·intro t ht
   rcases hq with ⟨_, rfl⟩ | ⟨elems, sp, he, hlen, hq⟩
   ·cases ht
   ·obtain ⟨i, hi, rfl⟩ := List.getElem_of_mem ht
    exact (hq i (by omega) hi).1
  ·intro t ht
   rcases hq with ⟨_, rfl⟩ | ⟨elems, sp, he, hlen, hq⟩
   ·cases ht
   ·obtain ⟨i, hi, rfl⟩ := List.getElem_of_mem ht
    have h1 := (hq i (by omega) hi).2
    have h2 := bulk_mem (List.getElem_mem (l := elems) (n := i) (by omega))
    rw [he, Rows.uptoBulk] at hbk
    show _ ≤ Rows.uptoBulk (.agg (ys.map (·.1)))
    omega
theorem words_of_laid3 {W : World} {s1 s3 : String} {x1 x3 : DataW Unit} (h : laidMet Tryz.prog [(s1, x1), ("patternbook/book.words", Rows.laid_patternbook_book_words), (s3, x3)] W) : Words W := by
 obtain ⟨ps, ⟨_, _, _, _, _, _, _, _, _, _, ⟨g, t, cs, fuel, p, q, hg, ht, hv, hd, _, _⟩, _⟩, _, _⟩ := h
 obtain rfl := Option.some.inj ((show Tryz.prog.globalNamed "patternbook/book.words" = some 2 by kernel_rfl).symm.trans hg)
 obtain rfl := Option.some.inj ((show (Tryz.prog.globals[2]?).map (·.type) = some 66 by kernel_rfl).symm.trans ht)
 obtain ⟨v, hv1, hr⟩ := strs_of_trod (l := [[98, 111, 111, 108], [101, 110, 117, 109], [103, 111, 110, 101], [105, 110, 116], [109, 97, 110, 121], [109, 97, 121, 98, 101], [109, 101, 115, 115, 97, 103, 101], [111, 110, 101], [116, 101, 120, 116]]) Tryz.underlying66 Tryz.underlying9 (by kernel_rfl) (by decide) hd
 refine ⟨v, ?_, hr⟩
 rw [World.var?_cell hg hv 0]
 have : cs.toList[0]? = some v := by rw [hv1]; rfl
 simpa using this
theorem maxL_of_shaped {W : World} (h : W.ShapedOpen Tryz.prog) : MaxL W :=
 Go.Proofs.cell_of_shapedOpen_int (zero := #[.int .i64 0]) (t := 3) h (of_decide_eq_true (by kernel_rfl)) (by kernel_rfl) rfl (by kernel_rfl) (by kernel_rfl) Tryz.underlying3
end Go.Proofs.YtfobdbhmfohfnaaGreatDoor
