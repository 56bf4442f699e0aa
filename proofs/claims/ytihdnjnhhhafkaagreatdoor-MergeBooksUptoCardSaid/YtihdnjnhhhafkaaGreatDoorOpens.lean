/- Several texts of walks and laws in one file; what each proves stands at its head. -/
import Derived.Test.YtihdnjnhhhafkaaGreatDoorBase
import Derived.ProofKit
import Derived.SizedLaws
import Derived.Deep.Slices
import Derived.Deep.Fields
import Derived.ChangeSame
import Derived.Test.YtihdnjnhhhafkaaGreatDoorRows
import Derived.Test.YtihdnjnhhhafkaaGreatDoorBooks
import Derived.LaidMore
import Derived.MakeChecks
import Derived.Test.YtihdnjnhhhafkaaGreatDoorBookGood
import Derived.Test.YtihdnjnhhhafkaaGreatDoorRefGood
import Derived.Shelf.Vars
set_option linter.all false
set_option maxRecDepth 100000
set_option maxHeartbeats 8000000
namespace Go.Proofs.YtihdnjnhhhafkaaGreatDoor
open Go.RowKit Go.ChangeShapes Go.WideShapes Go.Deep
def Opens {α : Type} (P : Program) (t sz : Nat) (R : Rel α) (good : α → Prop) : Prop :=
 ∀ (H : Type) (enc : TypeId × Value → H) (W : World) (spare : Nat → Bool) (held : Bool) (fuel : Nat) (cs : List Value) (x : DataW H × List MemPlace),
  (∀ n ∈ DataW.weights P t x.1, n ≤ reachBytes) → DataW.trod enc P W 0 spare held fuel t cs = some x → ∃ y, cs.length = sz ∧ R (Old W) W cs y ∧ good y
section
variable {α : Type} {P : Program}
theorem opens_int {t : Nat} (h : P.underlying t = some (.int .i64)) : Opens P t 1 RInt (fun y => -9223372036854775808 ≤ y ∧ y ≤ 9223372036854775807) := by
 intro H enc W spare held fuel cs x _ ht
 obtain ⟨n, rfl, _, hw⟩ := DataW.trod_int h ht
 have h1 : IntKind.i64.min = -9223372036854775808 := rfl
 have h2 : IntKind.i64.max = 9223372036854775807 := rfl
 simp only [Lit.wf, Bool.and_eq_true, decide_eq_true_eq] at hw
 exact ⟨n, rfl, rfl, by omega, by omega⟩
theorem opens_bool {t : Nat} (h : P.underlying t = some .bool) : Opens P t 1 (RFlat fun b : Bool => [.bool b]) (fun _ => True) := by
 intro H enc W spare held fuel cs x _ ht
 obtain ⟨n, rfl, _⟩ := DataW.trod_bool h ht
 exact ⟨n, rfl, rfl, trivial⟩
theorem opens_str {t : Nat} (h : P.underlying t = some .string) : Opens P t 1 RStr (fun s => s.size ≤ 140737488351232) := by
 intro H enc W spare held fuel cs x hw ht
 obtain ⟨s, rfl, rfl, _⟩ := DataW.trod_string h ht
 refine ⟨s, rfl, rfl, ?_⟩
 have := hw s.data.toList.length (by simp [DataW.weights])
 simp [reachBytes] at this
 exact this
theorem weights_all {H : Type} {e : Nat} {l : List (DataW H)} {d : DataW H} (hd : d ∈ l) {n : Nat} (hn : n ∈ DataW.weights P e d) : n ∈ DataW.weightsAll P e l := by
 induction l with
 | nil => cases hd
 | cons x l ih =>
  simp only [DataW.weightsAll, List.mem_append]
  rcases List.mem_cons.1 hd with rfl | h
  ·exact .inl hn
  ·exact .inr (ih h)
theorem opens_slice {t e sz by_ : Nat} {R : Rel α} {good : α → Prop} (ht : P.underlying t = some (.slice e)) (hsz : P.cellsOf e = sz) (h0 : 0 < sz) (hby : P.bytesOf e = by_) (ho : Opens P e sz R good) :
  Opens P t 1 (RSl sz by_ R) (fun ys => ∀ y ∈ ys, good y) := by
 intro H enc W spare held fuel cs x hw hx
 rcases open_slice ht hx with ⟨rfl, rfl⟩ | ⟨a, len, cap, m, n, D, Pl, rfl, hb, hl, hm, hmm, rfl, hi⟩
 ·exact ⟨[], rfl, RSl.nil_, by simp⟩
 ·subst hsz
  have hlm : len ≤ m := by rw [hmm]; split <;> omega
  have key : ∀ i, i < len → ∃ y cs', W.cells? 0 (a.add (i * P.cellsOf e)) (P.cellsOf e) = some cs' ∧ cs'.length = P.cellsOf e ∧ R (Old W) W cs' y ∧ good y := by
   intro i hil
   obtain ⟨cs', hc, htr⟩ := hi i (by omega)
   have hin : D i ∈ (List.range len).map D := List.mem_map.2 ⟨i, by simpa using hil, rfl⟩
   obtain ⟨y, h1, h2, h3⟩ := ho H enc W spare held n cs' _ (fun q hq => hw q (by
    simp only [DataW.weights, ht, List.mem_cons, List.mem_append]
    exact .inr (.inl (weights_all hin hq)))) htr
   exact ⟨y, cs', hc, h1, h2, h3⟩
  let f : Nat → Option α := fun i => if h : i < len then some (key i h).choose else none
  have hf : ∀ i (h : i < len), f i = some (key i h).choose := fun i h => by simp only [f]; rw [dif_pos h]
  let ys : List α := (List.range len).filterMap f
  have hys : ∀ i (h : i < len), ys[i]? = some (key i h).choose := by
   intro i h
   have : ys = (List.range len).pmap (fun i (h : i < len) => (key i h).choose) (fun i hi => by simpa using hi) := by
    show List.filterMap f (List.range len) = _
    apply List.ext_getElem?
    intro j
    have hfm : ∀ l : List Nat, (∀ i ∈ l, i < len) → ∀ j : Nat, (List.filterMap f l)[j]? = (l[j]?).bind f := by
     intro l
     induction l with
     | nil => intro _ j; simp
     | cons x l ih =>
      intro hl j
      have hx := hl x (by simp)
      rw [List.filterMap_cons, hf x hx]
      cases j with
      | zero => simp [hf x hx]
      | succ j => simpa using ih (fun i hi => hl i (by simp [hi])) j
    rw [hfm _ (fun i hi => by simpa using hi)]
    by_cases hj : j < len
    ·rw [List.getElem?_range hj]
     simp [hf j hj, List.getElem?_pmap, List.getElem?_range hj]
    ·rw [List.getElem?_eq_none (by simpa using hj), List.getElem?_eq_none (by simpa using hj)]; rfl
   rw [this]
   simp [List.getElem?_pmap, List.getElem?_range h]
  have hyl : ys.length = len := by
   have h1 : ∀ i, i < len → i < ys.length := by
    intro i h
    rcases Nat.lt_or_ge i ys.length with h' | h'
    ·exact h'
    ·have := hys i h; rw [List.getElem?_eq_none h'] at this; cases this
   have h2 : ys.length ≤ len := by
    have := List.length_filterMap_le f (List.range len)
    simpa using this
   rcases Nat.lt_or_ge ys.length len with h' | h'
   ·have := h1 ys.length h'; omega
   ·omega
  refine ⟨ys, rfl, ⟨some a, cap, by rw [hyl], by omega, ?_, ?_⟩, ?_⟩
  ·have := hw ((((List.range len).map D).length + ((List.range (m - len)).map fun j => D (len + j)).length) * P.bytesOf e) (by simp [DataW.weights, ht])
   simp only [List.length_map, List.length_range, reachBytes] at this
   rw [hyl, ← hby]
   refine Nat.le_trans (Nat.mul_le_mul_right _ ?_) this
   omega
  ·intro k y hk
   have hkl : k < len := by
    rcases Nat.lt_or_ge k len with h | h
    ·exact h
    ·rw [List.getElem?_eq_none (by omega)] at hk; cases hk
   rw [hys k hkl] at hk
   injection hk with hk
   subst hk
   obtain ⟨cs', hc, hcl, hr, _⟩ := (key k hkl).choose_spec
   obtain ⟨_, _, hat⟩ := World.cells?_some hc
   have hab : a.spot = none := by
    obtain ⟨cs0, hc0, hcl0, _, _⟩ := (key 0 (by omega)).choose_spec
    obtain ⟨_, _, hat0⟩ := World.cells?_some hc0
    have h00 := hat0 0 h0
    rw [List.getElem?_eq_getElem (by omega)] at h00
    have h1 := World.cell?_spot h00
    simpa [Addr.add] using h1
   have h00 := hat 0 h0
   rw [List.getElem?_eq_getElem (by omega)] at h00
   obtain ⟨g, o, sp⟩ := a
   simp only at hab
   subst hab
   have hadd : ∀ o n, (⟨g, o, none⟩ : Addr).add n = ⟨g, o + n, none⟩ := by intro o n; unfold Addr.add; split <;> simp_all
   refine ⟨g, o, cs', rfl, ?_, ?_, hcl, hr, fun j hj => ?_⟩
   ·have := World.block_lt_of_cell? W _ h00
    simpa [Old, hadd] using this
   ·have := World.block_lt_of_cell? W _ h00
    simpa [hadd] using this
   ·have := hat j (by omega)
    rw [hadd, hadd] at this
    exact this
  ·intro y hy
   obtain ⟨i, hi, rfl⟩ := List.getElem_of_mem hy
   have h1 := hys i (by omega)
   rw [List.getElem?_eq_getElem hi] at h1
   injection h1 with h1
   rw [h1]
   obtain ⟨_, _, _, _, hg⟩ := (key i (by omega)).choose_spec
   exact hg
theorem open_field {H : Type} {enc : TypeId × Value → H} {W : World} {spare : Nat → Bool} {held : Bool} {fuel : Nat} {cs : List Value} {x : DataW H × List MemPlace} {t sz : Nat} {fs : Array Field} {R : Rel α} {good : α → Prop}
  (hs : P.underlying t = some (.struct fs)) (hw : ∀ n ∈ DataW.weights P t x.1, n ≤ reachBytes) (h : DataW.trod enc P W 0 spare held fuel t cs = some x) (i : Nat) {f : Field} (hf : fs[i]? = some f)
  (hc : P.cellsOf f.type = sz) (ho : Opens P f.type sz R good) : ∃ y, ((cs.drop f.offset).take sz).length = sz ∧ R (Old W) W ((cs.drop f.offset).take sz) y ∧ good y := by
 obtain ⟨ys, n, _, rfl, _, hyl, hat⟩ := DataW.trod_struct hs h
 have hi := hat i f hf
 have hil : i < ys.length := by rw [hyl]; exact (Array.getElem?_eq_some_iff.1 hf).1
 rw [List.getElem?_eq_getElem hil, hc] at hi
 refine ho H enc W spare held n _ _ (fun q hq => hw q ?_) hi
 simp only [DataW.weights, hs]
 refine DataW.weights_mem_each (j := i) (t := f.type) (d := ys[i].1) ?_ ?_ q hq
 ·rw [List.getElem?_map, Array.getElem?_toList, hf]; rfl
 ·rw [List.getElem?_map, List.getElem?_eq_getElem hil]; rfl
theorem open_struct_len {H : Type} {enc : TypeId × Value → H} {W : World} {spare : Nat → Bool} {held : Bool} {fuel : Nat} {cs : List Value} {x : DataW H × List MemPlace} {t : Nat} {fs : Array Field}
  (hs : P.underlying t = some (.struct fs)) (h : DataW.trod enc P W 0 spare held fuel t cs = some x) : cs.length = P.cellsOf t := by
 obtain ⟨_, _, _, _, h, _⟩ := DataW.trod_struct hs h
 exact h
theorem opens_param {H : Type} {enc : TypeId × Value → H} {W : World} {ts : List TypeId} {ds : List (DataW H)} {spare : Nat → Bool} {held : Bool} {t sz j : Nat} {v : Value} {d : DataW H} {p : List MemPlace} {R : Rel α} {good : α → Prop}
  (hsz : (DataW.weightsEach P ts ds).all (· ≤ reachBytes) = true) (ho : Opens P t sz R good) (hj : ts[j]? = some t) (hd : ds[j]? = some d) (h : DataW.Trod enc P W 0 spare held t v d p) :
  ∃ y, v.cells.toList.length = sz ∧ R (Old W) W v.cells.toList y ∧ good y := by
 obtain ⟨fuel, hf⟩ := h
 exact ho H enc W spare held fuel _ _ (fun n hn => by
  have := List.all_eq_true.1 hsz _ (DataW.weights_mem_each hj hd n hn)
  simpa using this) hf
theorem post_law {H : Type} {enc : TypeId × Value → H} {f : Func} {s : ChangeSpec} {W W' : World} {args : Array Value} {v : Value} {ds gs : List (DataW H)} {before pa pv : List MemPlace}
  (hW : DataW.Whole enc P f.params.toList s.vars false W args.toList ds gs before) (hb : Below W.heap.size W W') (pr : List MemPlace)
  (hres : DataW.TrodAll enc P W' W.heap.size (fun _ => false) false f.resultTypes.toList (v.resultList f.resultTypes.size) (s.fn H (ds ++ gs)).results pr)
  (hargs : DataW.TrodAll enc P W' 0 (fun b => decide (b < W.heap.size)) true f.params.toList args.toList (s.fn H (ds ++ gs)).args pa)
  (hvars : DataW.TrodVars enc P W' (fun b => decide (b < W.heap.size)) s.vars (s.fn H (ds ++ gs)).vars pv) : s.post enc P f false true false false W args v W' :=
 ⟨_, _, _, pr, pa, pv, hW, hres, hargs, hvars, hb.frame _, fun h => by cases h⟩
end
end Go.Proofs.YtihdnjnhhhafkaaGreatDoor
namespace Go.Proofs.YtihdnjnhhhafkaaGreatDoor
open Go.RowKit Go.ChangeShapes Go.WideShapes Go.Deep
theorem strs_of_trod {P : Program} {H : Type} {enc : TypeId × Value → H} {W : World} {spare : Nat → Bool} {held : Bool} {fuel t e : Nat} {cs : List Value} {l : List (List UInt8)} {p : List MemPlace}
  (ht : P.underlying t = some (.slice e)) (he : P.underlying e = some .string) (hc : P.cellsOf e = 1) (hs : l.length * 16 ≤ 140737488351232)
  (h : DataW.trod enc P W 0 spare held fuel t cs = some (.slice (l.map fun b => .lit (.string b)) [], p)) :
  ∃ v, cs = [v] ∧ RSl 1 16 RStr (fun _ => True) W [v] (l.map fun b => ⟨b.toArray⟩) := by
 rcases open_slice1 ht hc h with ⟨rfl, hx⟩ | ⟨a, len, cap, m, n, V, D, Pl, rfl, hb, hl, hm, hmm, hx, hi⟩
 ·cases (Prod.mk.inj hx).1
 ·obtain ⟨h1, h2⟩ := DataW.slice.inj (Prod.mk.inj hx).1
  have hlen : l.length = len := by simpa using congrArg List.length h1
  have hlm : len ≤ m := by rw [hmm]; split <;> omega
  refine ⟨_, rfl, some a, cap, by simp [hlen], by simp [hlen]; exact hl, by simpa using hs, ?_⟩
  intro k x hx
  rw [List.getElem?_map] at hx
  have hk : k < l.length := by
   rcases Nat.lt_or_ge k l.length with h | h
   ·exact h
   ·rw [List.getElem?_eq_none h] at hx; cases hx
  rw [List.getElem?_eq_getElem hk] at hx
  simp only [Option.map_some, Option.some.injEq] at hx
  obtain ⟨hcell, htr⟩ := hi k (by omega)
  obtain ⟨s, e1, e2, _⟩ := DataW.trod_string he htr
  have hd : D k = .lit (.string l[k]) := by
   have := congrArg (·[k]?) h1
   simp only [List.getElem?_map, List.getElem?_eq_getElem hk, List.getElem?_range (show k < len by omega), Option.map_some, Option.some.injEq] at this
   exact this.symm
  have hsb : s.data.toList = l[k] := by
   rw [hd] at e2
   have := (Prod.mk.inj e2).1
   injection this with this
   injection this with this
   exact this.symm
  have hV : V k = .string x := by
   have h0 : V k = .string s := by simpa using e1
   rw [h0, ← hx, ← hsb]
  have hlt := World.block_lt_of_cell? W _ hcell
  have hsp := World.cell?_spot (hi 0 (by omega)).1
  obtain ⟨g, o, sp⟩ := a
  have hs0 : sp = none := by simpa [Addr.add] using hsp
  subst hs0
  have hadd : (⟨g, o, none⟩ : Addr).add k = ⟨g, o + k, none⟩ := by unfold Addr.add; split <;> simp_all
  rw [hadd] at hcell hlt
  refine ⟨g, o, [.string x], rfl, trivial, hlt, rfl, rfl, fun j hj => ?_⟩
  have : j = 0 := by simpa using hj
  subst this
  rw [Nat.mul_one, Nat.add_zero, hcell, hV]; rfl
theorem words_of_laid {W : World} (h : laidMet Tryz.prog [("patternbook/book.words", Rows.laid_patternbook_book_words)] W) : Words W := by
 obtain ⟨ps, ⟨g, t, cs, fuel, p, q, hg, ht, hv, hd, _, _⟩, _, _⟩ := h
 obtain rfl := Option.some.inj ((show Tryz.prog.globalNamed "patternbook/book.words" = some 0 by kernel_rfl).symm.trans hg)
 obtain rfl := Option.some.inj ((show (Tryz.prog.globals[0]?).map (·.type) = some 40 by kernel_rfl).symm.trans ht)
 obtain ⟨v, hv1, hr⟩ := strs_of_trod (l := [[98, 111, 111, 108], [101, 110, 117, 109], [103, 111, 110, 101], [105, 110, 116], [109, 97, 110, 121], [109, 97, 121, 98, 101], [109, 101, 115, 115, 97, 103, 101], [111, 110, 101], [116, 101, 120, 116]]) Tryz.underlying40 Tryz.underlying9 (by kernel_rfl) (by decide) hd
 refine ⟨v, ?_, hr⟩
 rw [World.var?_cell hg hv 0]
 have : cs.toList[0]? = some v := by rw [hv1]; rfl
 simpa using this
end Go.Proofs.YtihdnjnhhhafkaaGreatDoor
namespace Go.Proofs.YtihdnjnhhhafkaaGreatDoor
open Go.RowKit Go.ChangeShapes Go.WideShapes Go.ChangeAt
theorem Tryz.own : ownKnob Tryz.prog.godebug = none := by kernel_rfl
theorem Tryz.laidOut : laidOutB Tryz.prog = true := by kernel_rfl
theorem opens_field : Opens Tryz.prog 43 5 RField (fun f => SizeOk f.name ∧ SizeOk f.type) := by
 intro H enc W spare held fuel cs x hw h
 have hs := Tryz.underlying43
 have hl := open_struct_len hs h
 have hc : Tryz.prog.cellsOf 43 = 5 := by kernel_rfl
 rw [hc] at hl
 obtain ⟨a, _, ha, _⟩ := open_field hs hw h 0 rfl (by kernel_rfl) (opens_int Tryz.underlying3)
 obtain ⟨b, _, hb, hbs⟩ := open_field hs hw h 1 rfl (by kernel_rfl) (opens_str Tryz.underlying9)
 obtain ⟨c, _, hc, hcs⟩ := open_field hs hw h 2 rfl (by kernel_rfl) (opens_str Tryz.underlying9)
 obtain ⟨d, _, hd, _⟩ := open_field hs hw h 3 rfl (by kernel_rfl) (opens_int Tryz.underlying3)
 obtain ⟨e, _, he, _⟩ := open_field hs hw h 4 rfl (by kernel_rfl) (opens_int Tryz.underlying3)
 match cs, hl with
 | [c0, c1, c2, c3, c4], _ =>
  have e0 : c0 = .int .i64 a := by simpa [RInt, RFlat] using ha
  have e1 : c1 = .string b := by simpa [RStr, RFlat] using hb
  have e2 : c2 = .string c := by simpa [RStr, RFlat] using hc
  have e3 : c3 = .int .i64 d := by simpa [RInt, RFlat] using hd
  have e4 : c4 = .int .i64 e := by simpa [RInt, RFlat] using he
  subst e0 e1 e2 e3 e4
  exact ⟨⟨a, b, c, d, e⟩, rfl, rfl, hbs, hcs⟩
theorem opens_item : Opens Tryz.prog 62 2 RItem (fun x => SizeOk x.name) := by
 intro H enc W spare held fuel cs x hw h
 have hs := Tryz.underlying62
 have hl := open_struct_len hs h
 have hc : Tryz.prog.cellsOf 62 = 2 := by kernel_rfl
 rw [hc] at hl
 obtain ⟨a, _, ha, has⟩ := open_field hs hw h 0 rfl (by kernel_rfl) (opens_str Tryz.underlying9)
 obtain ⟨b, _, hb, _⟩ := open_field hs hw h 1 rfl (by kernel_rfl) (opens_int Tryz.underlying3)
 match cs, hl with
 | [c0, c1], _ =>
  have e0 : c0 = .string a := by simpa [RStr, RFlat] using ha
  have e1 : c1 = .int .i64 b := by simpa [RInt, RFlat] using hb
  subst e0 e1
  exact ⟨⟨a, b⟩, rfl, rfl, has⟩
theorem opens_type : Opens Tryz.prog 38 5 RType (fun t => SizeOk t.name ∧ (∀ f ∈ t.fields, SizeOk f.name ∧ SizeOk f.type) ∧ (∀ x ∈ t.items, SizeOk x.name)) := by
 intro H enc W spare held fuel cs x hw h
 have hs := Tryz.underlying38
 have hl := open_struct_len hs h
 have hc : Tryz.prog.cellsOf 38 = 5 := by kernel_rfl
 rw [hc] at hl
 obtain ⟨a, _, ha, has⟩ := open_field hs hw h 0 rfl (by kernel_rfl) (opens_str Tryz.underlying9)
 obtain ⟨b, _, hb, _⟩ := open_field hs hw h 1 rfl (by kernel_rfl) (opens_bool Tryz.underlying4)
 obtain ⟨c, _, hc, hcs⟩ := open_field hs hw h 2 rfl (by kernel_rfl) (opens_slice (sz := 5) (by_ := 56) Tryz.underlying34 (by kernel_rfl) (by decide) (by kernel_rfl) opens_field)
 obtain ⟨d, _, hd, _⟩ := open_field hs hw h 3 rfl (by kernel_rfl) (opens_slice (sz := 1) (by_ := 8) Tryz.underlying35 (by kernel_rfl) (by decide) (by kernel_rfl) (opens_int Tryz.underlying3))
 obtain ⟨e, _, he, hes⟩ := open_field hs hw h 4 rfl (by kernel_rfl) (opens_slice (sz := 2) (by_ := 24) Tryz.underlying36 (by kernel_rfl) (by decide) (by kernel_rfl) opens_item)
 match cs, hl with
 | [c0, c1, c2, c3, c4], _ =>
  have e0 : c0 = .string a := by simpa [RStr, RFlat] using ha
  have e1 : c1 = .bool b := by simpa [RFlat] using hb
  subst e0 e1
  exact ⟨⟨a, b, c, d, e⟩, rfl, ⟨c2, c3, c4, rfl, hc, hd, he⟩, has, hcs, hes⟩
theorem opens_book : Opens Tryz.prog 24 1 (RSl 5 96 RType) BookOk := by
 intro H enc W spare held fuel cs x hw h
 have hs := Tryz.underlying24
 have hl := open_struct_len hs h
 have hc : Tryz.prog.cellsOf 24 = 1 := by kernel_rfl
 rw [hc] at hl
 obtain ⟨a, _, ha, has⟩ := open_field hs hw h 0 rfl (by kernel_rfl) (opens_slice (sz := 5) (by_ := 96) Tryz.underlying22 (by kernel_rfl) (by decide) (by kernel_rfl) opens_type)
 match cs, hl with
 | [c0], _ => exact ⟨a, rfl, ha, has⟩
end Go.Proofs.YtihdnjnhhhafkaaGreatDoor
namespace Go.Proofs.YtihdnjnhhhafkaaGreatDoor
open Go.RowKit Go.ChangeShapes Go.WideShapes Go.Deep
theorem open_slice_by {α : Type} {P : Program} {t e sz by_ : Nat} {R : Rel α} {H : Type} {enc : TypeId × Value → H} {W : World} {spare : Nat → Bool} {held : Bool} {fuel : Nat} {cs : List Value} {x : DataW H × List MemPlace} {Q : DataW H → α → Prop}
  (ht : P.underlying t = some (.slice e)) (hsz : P.cellsOf e = sz) (h0 : 0 < sz) (hby : P.bytesOf e = by_)
  (hw : ∀ n ∈ DataW.weights P t x.1, n ≤ reachBytes) (hx : DataW.trod enc P W 0 spare held fuel t cs = some x)
  (ho : ∀ (n : Nat) (cs' : List Value) (x' : DataW H × List MemPlace), (∃ elems sp, x.1 = .slice elems sp ∧ x'.1 ∈ elems) → (∀ q ∈ DataW.weights P e x'.1, q ≤ reachBytes) → DataW.trod enc P W 0 spare held n e cs' = some x' → ∃ y, cs'.length = sz ∧ R (Old W) W cs' y ∧ Q x'.1 y) :
  ∃ ys, cs.length = 1 ∧ RSl sz by_ R (Old W) W cs ys ∧ ((x.1 = .nil ∧ ys = []) ∨ ∃ elems sp, x.1 = .slice elems sp ∧ elems.length = ys.length ∧ ∀ i (h : i < elems.length) (h' : i < ys.length), Q elems[i] ys[i]) := by
 rcases open_slice ht hx with ⟨rfl, rfl⟩ | ⟨a, len, cap, m, n, D, Pl, rfl, hb, hl, hm, hmm, rfl, hi⟩
 ·exact ⟨[], rfl, RSl.nil_, .inl ⟨rfl, rfl⟩⟩
 ·subst hsz
  have hlm : len ≤ m := by rw [hmm]; split <;> omega
  have key : ∀ i, i < len → ∃ y cs', W.cells? 0 (a.add (i * P.cellsOf e)) (P.cellsOf e) = some cs' ∧ cs'.length = P.cellsOf e ∧ R (Old W) W cs' y ∧ Q (D i) y := by
   intro i hil
   obtain ⟨cs', hc, htr⟩ := hi i (by omega)
   have hin : D i ∈ (List.range len).map D := List.mem_map.2 ⟨i, by simpa using hil, rfl⟩
   obtain ⟨y, h1, h2, h3⟩ := ho n cs' (D i, Pl i) ⟨_, _, rfl, hin⟩ (fun q hq => hw q (by
    simp only [DataW.weights, ht, List.mem_cons, List.mem_append]
    exact .inr (.inl (weights_all hin hq)))) htr
   exact ⟨y, cs', hc, h1, h2, h3⟩
  let f : Nat → Option α := fun i => if h : i < len then some (key i h).choose else none
  have hf : ∀ i (h : i < len), f i = some (key i h).choose := fun i h => by simp only [f]; rw [dif_pos h]
  let ys : List α := (List.range len).pmap (fun i (h : i < len) => (key i h).choose) (fun i hi => by simpa using hi)
  have hyl : ys.length = len := by simp [ys]
  have hys : ∀ i (h : i < len), ys[i]? = some (key i h).choose := by
   intro i h
   simp [ys, List.getElem?_pmap, List.getElem?_range h]
  refine ⟨ys, rfl, ⟨some a, cap, by rw [hyl], by omega, ?_, ?_⟩, .inr ⟨_, _, rfl, by simp [hyl], fun i h h' => ?_⟩⟩
  ·have := hw ((((List.range len).map D).length + ((List.range (m - len)).map fun j => D (len + j)).length) * P.bytesOf e) (by simp [DataW.weights, ht])
   simp only [List.length_map, List.length_range, reachBytes] at this
   rw [hyl, ← hby]
   refine Nat.le_trans (Nat.mul_le_mul_right _ ?_) this
   omega
  ·intro k y hk
   have hkl : k < len := by
    rcases Nat.lt_or_ge k len with h | h
    ·exact h
    ·rw [List.getElem?_eq_none (by omega)] at hk; cases hk
   rw [hys k hkl] at hk
   injection hk with hk
   subst hk
   obtain ⟨cs', hc, hcl, hr, _⟩ := (key k hkl).choose_spec
   obtain ⟨_, _, hat⟩ := World.cells?_some hc
   have hab : a.spot = none := by
    obtain ⟨cs0, hc0, hcl0, _, _⟩ := (key 0 (by omega)).choose_spec
    obtain ⟨_, _, hat0⟩ := World.cells?_some hc0
    have h00 := hat0 0 h0
    rw [List.getElem?_eq_getElem (by omega)] at h00
    have h1 := World.cell?_spot h00
    simpa [Addr.add] using h1
   have h00 := hat 0 h0
   rw [List.getElem?_eq_getElem (by omega)] at h00
   obtain ⟨g, o, sp⟩ := a
   simp only at hab
   subst hab
   have hadd : ∀ o n, (⟨g, o, none⟩ : Addr).add n = ⟨g, o + n, none⟩ := by intro o n; unfold Addr.add; split <;> simp_all
   refine ⟨g, o, cs', rfl, ?_, ?_, hcl, hr, fun j hj => ?_⟩
   ·have := World.block_lt_of_cell? W _ h00
    simpa [Old, hadd] using this
   ·have := World.block_lt_of_cell? W _ h00
    simpa [hadd] using this
   ·have := hat j (by omega)
    rw [hadd, hadd] at this
    exact this
  ·have hil : i < len := by simpa using h
   have h1 := hys i hil
   rw [List.getElem?_eq_getElem h'] at h1
   injection h1 with h1
   rw [h1]
   have : ((List.range len).map D)[i] = D i := by simp
   rw [this]
   obtain ⟨_, _, _, _, hg⟩ := (key i hil).choose_spec
   exact hg
end Go.Proofs.YtihdnjnhhhafkaaGreatDoor
namespace Go.Proofs.YtihdnjnhhhafkaaGreatDoor
open Go.RowKit Go.ChangeShapes Go.WideShapes Go.ChangeAt
theorem bulk_mem {H : Type} {d : DataW H} : ∀ {l : List (DataW H)}, d ∈ l → Rows.uptoBulk d ≤ Rows.uptoBulkAll l
 | [], h => by cases h
 | x :: r, h => by
  rw [Rows.uptoBulkAll]
  rcases List.mem_cons.1 h with rfl | h
  ·omega
  ·have := bulk_mem h; omega
end Go.Proofs.YtihdnjnhhhafkaaGreatDoor
namespace Go.Proofs.YtihdnjnhhhafkaaGreatDoor
open Go.RowKit Go.ChangeShapes Go.WideShapes Go.ChangeAt
theorem bulk_one {H : Type} (d : DataW H) : 1 ≤ Rows.uptoBulk d := by
 cases d with
 | lit x => cases x <;> simp [Rows.uptoBulk]
 | _ => simp [Rows.uptoBulk]
theorem bulk_len {H : Type} : ∀ l : List (DataW H), l.length ≤ Rows.uptoBulkAll l
 | [] => by simp
 | d :: l => by
  have := bulk_len l
  have := bulk_one d
  rw [Rows.uptoBulkAll, List.length_cons]; omega
theorem open_type_bulk {H : Type} {enc : TypeId × Value → H} {W : World} {spare : Nat → Bool} {held : Bool} (fuel : Nat) (cs : List Value) (x : DataW H × List MemPlace) (hw : ∀ q ∈ DataW.weights Tryz.prog 38 x.1, q ≤ reachBytes)
  (h : DataW.trod enc Tryz.prog W 0 spare held fuel 38 cs = some x) :
  ∃ t, cs.length = 5 ∧ RType (Old W) W cs t ∧ ((SizeOk t.name ∧ (∀ f ∈ t.fields, SizeOk f.name ∧ SizeOk f.type) ∧ (∀ x ∈ t.items, SizeOk x.name)) ∧ t.items.length ≤ Rows.uptoBulk x.1) := by
 have hs := Tryz.underlying38
 have hl := open_struct_len hs h
 have hc : Tryz.prog.cellsOf 38 = 5 := by kernel_rfl
 rw [hc] at hl
 obtain ⟨a, _, ha, has⟩ := open_field hs hw h 0 rfl (by kernel_rfl) (opens_str Tryz.underlying9)
 obtain ⟨b, _, hb, _⟩ := open_field hs hw h 1 rfl (by kernel_rfl) (opens_bool Tryz.underlying4)
 obtain ⟨c, _, hc, hcs⟩ := open_field hs hw h 2 rfl (by kernel_rfl) (opens_slice (sz := 5) (by_ := 56) Tryz.underlying34 (by kernel_rfl) (by decide) (by kernel_rfl) opens_field)
 obtain ⟨d, _, hd, _⟩ := open_field hs hw h 3 rfl (by kernel_rfl) (opens_slice (sz := 1) (by_ := 8) Tryz.underlying35 (by kernel_rfl) (by decide) (by kernel_rfl) (opens_int Tryz.underlying3))
 obtain ⟨ys, m, _, rfl, _, hyl, hat⟩ := DataW.trod_struct hs h
 have h4 := hat 4 _ rfl
 have hil : 4 < ys.length := by rw [hyl]; decide
 rw [List.getElem?_eq_getElem hil] at h4
 have hbk : Rows.uptoBulk ys[4].1 + 1 ≤ Rows.uptoBulk (.agg (ys.map (·.1))) := by
  rw [Rows.uptoBulk]
  have := bulk_mem (List.mem_map.2 ⟨ys[4], List.getElem_mem hil, rfl⟩ : ys[4].1 ∈ ys.map (·.1))
  omega
 obtain ⟨l, _, hll, hq⟩ := open_slice_by (sz := 2) (by_ := 24) (R := RItem) (Q := fun _ y => SizeOk y.name) Tryz.underlying36 (by kernel_rfl) (by decide) (by kernel_rfl) (fun q hq => hw q (by
  simp only [DataW.weights, hs]
  refine DataW.weights_mem_each (j := 4) (t := 36) (d := ys[4].1) ?_ ?_ q hq
  ·rfl
  ·rw [List.getElem?_map, List.getElem?_eq_getElem hil]; rfl)) h4 (fun k cs' x' _ hw' ht' => opens_item H enc W spare held k cs' x' hw' ht')
 have hfin : (∀ x ∈ l, SizeOk x.name) ∧ l.length ≤ Rows.uptoBulk (.agg (ys.map (·.1))) := by
  rcases hq with ⟨_, rfl⟩ | ⟨elems, sp, he, hlen, hq⟩
  ·exact ⟨fun x hx => by (cases hx), by simp⟩
  ·refine ⟨fun x hx => ?_, ?_⟩
   ·obtain ⟨i, hi, rfl⟩ := List.getElem_of_mem hx
    exact hq i (by omega) hi
   ·have := bulk_len elems
    rw [he, Rows.uptoBulk] at hbk
    omega
 match cs, hl with
 | [c0, c1, c2, c3, c4], _ =>
  have e0 : c0 = .string a := by simpa [RStr, RFlat] using ha
  have e1 : c1 = .bool b := by simpa [RFlat] using hb
  subst e0 e1
  exact ⟨⟨a, b, c, d, l⟩, rfl, ⟨c2, c3, c4, rfl, hc, hd, hll⟩, ⟨has, hcs, hfin.1⟩, hfin.2⟩
theorem open_book_bulk {H : Type} {enc : TypeId × Value → H} {W : World} {spare : Nat → Bool} {held : Bool} (fuel : Nat) (cs : List Value) (x : DataW H × List MemPlace) (hw : ∀ q ∈ DataW.weights Tryz.prog 24 x.1, q ≤ reachBytes)
  (h : DataW.trod enc Tryz.prog W 0 spare held fuel 24 cs = some x) :
  ∃ b, cs.length = 1 ∧ RSl 5 96 RType (Old W) W cs b ∧ (BookOk b ∧ ∀ t ∈ b, t.items.length ≤ Rows.uptoBulk x.1) := by
 have hs := Tryz.underlying24
 have hl := open_struct_len hs h
 have hc : Tryz.prog.cellsOf 24 = 1 := by kernel_rfl
 rw [hc] at hl
 obtain ⟨ys, m, _, rfl, _, hyl, hat⟩ := DataW.trod_struct hs h
 have h4 := hat 0 _ rfl
 have hil : 0 < ys.length := by rw [hyl]; decide
 rw [List.getElem?_eq_getElem hil] at h4
 have hbk : Rows.uptoBulk ys[0].1 + 1 ≤ Rows.uptoBulk (.agg (ys.map (·.1))) := by
  rw [Rows.uptoBulk]
  have := bulk_mem (List.mem_map.2 ⟨ys[0], List.getElem_mem hil, rfl⟩ : ys[0].1 ∈ ys.map (·.1))
  omega
 obtain ⟨l, _, hll, hq⟩ := open_slice_by (sz := 5) (by_ := 96) (R := RType) (Q := fun d t => (SizeOk t.name ∧ (∀ f ∈ t.fields, SizeOk f.name ∧ SizeOk f.type) ∧ (∀ x ∈ t.items, SizeOk x.name)) ∧ t.items.length ≤ Rows.uptoBulk d) Tryz.underlying22 (by kernel_rfl) (by decide) (by kernel_rfl) (fun q hq => hw q (by
  simp only [DataW.weights, hs]
  refine DataW.weights_mem_each (j := 0) (t := 22) (d := ys[0].1) ?_ ?_ q hq
  ·rfl
  ·rw [List.getElem?_map, List.getElem?_eq_getElem hil]; rfl)) h4 (fun k cs' x' _ hw' ht' => open_type_bulk k cs' x' hw' ht')
 match cs, hl with
 | [c0], _ =>
  refine ⟨l, rfl, hll, ?_, ?_⟩
  ·intro t ht
   rcases hq with ⟨_, rfl⟩ | ⟨elems, sp, he, hlen, hq⟩
   ·cases ht
   ·obtain ⟨i, hi, rfl⟩ := List.getElem_of_mem ht
    exact (hq i (by omega) hi).1
  ·intro t ht
   rcases hq with ⟨_, rfl⟩ | ⟨elems, sp, he, hlen, hq⟩
   ·cases ht
   ·obtain ⟨i, hi, rfl⟩ := List.getElem_of_mem ht
    have h1 := (hq i (by omega) hi).2
    have h2 := bulk_mem (List.getElem_mem (l := elems) (n := i) (by omega))
    rw [he, Rows.uptoBulk] at hbk
    show _ ≤ Rows.uptoBulk (.agg (ys.map (·.1)))
    omega
theorem words_of_laid3 {W : World} {s1 s3 : String} {x1 x3 : DataW Unit} (h : laidMet Tryz.prog [(s1, x1), ("patternbook/book.words", Rows.laid_patternbook_book_words), (s3, x3)] W) : Words W := by
 obtain ⟨ps, ⟨_, _, _, _, _, _, _, _, _, _, ⟨g, t, cs, fuel, p, q, hg, ht, hv, hd, _, _⟩, _⟩, _, _⟩ := h
 obtain rfl := Option.some.inj ((show Tryz.prog.globalNamed "patternbook/book.words" = some 0 by kernel_rfl).symm.trans hg)
 obtain rfl := Option.some.inj ((show (Tryz.prog.globals[0]?).map (·.type) = some 40 by kernel_rfl).symm.trans ht)
 obtain ⟨v, hv1, hr⟩ := strs_of_trod (l := [[98, 111, 111, 108], [101, 110, 117, 109], [103, 111, 110, 101], [105, 110, 116], [109, 97, 110, 121], [109, 97, 121, 98, 101], [109, 101, 115, 115, 97, 103, 101], [111, 110, 101], [116, 101, 120, 116]]) Tryz.underlying40 Tryz.underlying9 (by kernel_rfl) (by decide) hd
 refine ⟨v, ?_, hr⟩
 rw [World.var?_cell hg hv 0]
 have : cs.toList[0]? = some v := by rw [hv1]; rfl
 simpa using this
theorem maxL_of_shaped {W : World} (h : W.ShapedOpen Tryz.prog) : MaxL W :=
 Go.Proofs.cell_of_shapedOpen_int (zero := #[.int .i64 0]) (t := 3) h (of_decide_eq_true (by kernel_rfl)) (by kernel_rfl) rfl (by kernel_rfl) (by kernel_rfl) Tryz.underlying3
end Go.Proofs.YtihdnjnhhhafkaaGreatDoor
