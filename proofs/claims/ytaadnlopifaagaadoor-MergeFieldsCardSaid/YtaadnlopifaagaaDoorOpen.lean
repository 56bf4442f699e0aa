/- What comes in, read as data, read as our lists. -/
import Derived.Test.YtaadnlopifaagaaDoorRep
import Derived.ProofKit
import Derived.SizedLaws
import Derived.Deep.Slices
import Derived.Deep.Fields
import Derived.ChangeSame
namespace Go.Proofs.YtaadnlopifaagaaDoor
open Go.RowKit Go.ChangeShapes Go.WideShapes Go.Deep

/-- What reads as data at type t reads by R, and is as good says; its cells are sz. -/
def Opens {α : Type} (P : Program) (t sz : Nat) (R : Rel α) (good : α → Prop) : Prop :=
  ∀ (H : Type) (enc : TypeId × Value → H) (W : World) (spare : Nat → Bool) (held : Bool) (fuel : Nat) (cs : List Value) (x : DataW H × List MemPlace),
    (∀ n ∈ DataW.weights P t x.1, n ≤ reachBytes) → DataW.trod enc P W 0 spare held fuel t cs = some x → ∃ y, cs.length = sz ∧ R (Old W) W cs y ∧ good y

section
variable {α : Type} {P : Program}
theorem opens_int {t : Nat} (h : P.underlying t = some (.int .i64)) : Opens P t 1 RInt (fun y => -9223372036854775808 ≤ y ∧ y ≤ 9223372036854775807) := by
  intro H enc W spare held fuel cs x _ ht
  obtain ⟨n, rfl, _, hw⟩ := DataW.trod_int h ht
  have h1 : IntKind.i64.min = -9223372036854775808 := rfl
  have h2 : IntKind.i64.max = 9223372036854775807 := rfl
  simp only [Lit.wf, Bool.and_eq_true, decide_eq_true_eq] at hw
  exact ⟨n, rfl, rfl, by omega, by omega⟩
theorem opens_bool {t : Nat} (h : P.underlying t = some .bool) : Opens P t 1 (RFlat fun b : Bool => [.bool b]) (fun _ => True) := by
  intro H enc W spare held fuel cs x _ ht
  obtain ⟨n, rfl, _⟩ := DataW.trod_bool h ht
  exact ⟨n, rfl, rfl, trivial⟩
theorem opens_str {t : Nat} (h : P.underlying t = some .string) : Opens P t 1 RStr (fun s => s.size ≤ 140737488351232) := by
  intro H enc W spare held fuel cs x hw ht
  obtain ⟨s, rfl, rfl, _⟩ := DataW.trod_string h ht
  refine ⟨s, rfl, rfl, ?_⟩
  have := hw s.data.toList.length (by simp [DataW.weights])
  simp [reachBytes] at this
  exact this

theorem weights_all {H : Type} {e : Nat} {l : List (DataW H)} {d : DataW H} (hd : d ∈ l) {n : Nat} (hn : n ∈ DataW.weights P e d) : n ∈ DataW.weightsAll P e l := by
  induction l with
  | nil => cases hd
  | cons x l ih =>
    simp only [DataW.weightsAll, List.mem_append]
    rcases List.mem_cons.1 hd with rfl | h
    · exact .inl hn
    · exact .inr (ih h)

theorem opens_slice {t e sz by_ : Nat} {R : Rel α} {good : α → Prop} (ht : P.underlying t = some (.slice e)) (hsz : P.cellsOf e = sz) (h0 : 0 < sz) (hby : P.bytesOf e = by_) (ho : Opens P e sz R good) :
    Opens P t 1 (RSl sz by_ R) (fun ys => ∀ y ∈ ys, good y) := by
  intro H enc W spare held fuel cs x hw hx
  rcases open_slice ht hx with ⟨rfl, rfl⟩ | ⟨a, len, cap, m, n, D, Pl, rfl, hb, hl, hm, hmm, rfl, hi⟩
  · exact ⟨[], rfl, RSl.nil_, by simp⟩
  · subst hsz
    have hlm : len ≤ m := by rw [hmm]; split <;> omega
    have key : ∀ i, i < len → ∃ y cs', W.cells? 0 (a.add (i * P.cellsOf e)) (P.cellsOf e) = some cs' ∧ cs'.length = P.cellsOf e ∧ R (Old W) W cs' y ∧ good y := by
      intro i hil
      obtain ⟨cs', hc, htr⟩ := hi i (by omega)
      have hin : D i ∈ (List.range len).map D := List.mem_map.2 ⟨i, by simpa using hil, rfl⟩
      obtain ⟨y, h1, h2, h3⟩ := ho H enc W spare held n cs' _ (fun q hq => hw q (by
        simp only [DataW.weights, ht, List.mem_cons, List.mem_append]
        exact .inr (.inl (weights_all hin hq)))) htr
      exact ⟨y, cs', hc, h1, h2, h3⟩
    let f : Nat → Option α := fun i => if h : i < len then some (key i h).choose else none
    have hf : ∀ i (h : i < len), f i = some (key i h).choose := fun i h => by simp only [f]; rw [dif_pos h]
    let ys : List α := (List.range len).filterMap f
    have hys : ∀ i (h : i < len), ys[i]? = some (key i h).choose := by
      intro i h
      have : ys = (List.range len).pmap (fun i (h : i < len) => (key i h).choose) (fun i hi => by simpa using hi) := by
        show List.filterMap f (List.range len) = _
        apply List.ext_getElem?
        intro j
        have hfm : ∀ l : List Nat, (∀ i ∈ l, i < len) → ∀ j : Nat, (List.filterMap f l)[j]? = (l[j]?).bind f := by
          intro l
          induction l with
          | nil => intro _ j; simp
          | cons x l ih =>
            intro hl j
            have hx := hl x (by simp)
            rw [List.filterMap_cons, hf x hx]
            cases j with
            | zero => simp [hf x hx]
            | succ j => simpa using ih (fun i hi => hl i (by simp [hi])) j
        rw [hfm _ (fun i hi => by simpa using hi)]
        by_cases hj : j < len
        · rw [List.getElem?_range hj]
          simp [hf j hj, List.getElem?_pmap, List.getElem?_range hj]
        · rw [List.getElem?_eq_none (by simpa using hj), List.getElem?_eq_none (by simpa using hj)]; rfl
      rw [this]
      simp [List.getElem?_pmap, List.getElem?_range h]
    have hyl : ys.length = len := by
      have h1 : ∀ i, i < len → i < ys.length := by
        intro i h
        rcases Nat.lt_or_ge i ys.length with h' | h'
        · exact h'
        · have := hys i h; rw [List.getElem?_eq_none h'] at this; cases this
      have h2 : ys.length ≤ len := by
        have := List.length_filterMap_le f (List.range len)
        simpa using this
      rcases Nat.lt_or_ge ys.length len with h' | h'
      · have := h1 ys.length h'; omega
      · omega
    refine ⟨ys, rfl, ⟨some a, cap, by rw [hyl], by omega, ?_, ?_⟩, ?_⟩
    · have := hw ((((List.range len).map D).length + ((List.range (m - len)).map fun j => D (len + j)).length) * P.bytesOf e) (by simp [DataW.weights, ht])
      simp only [List.length_map, List.length_range, reachBytes] at this
      rw [hyl, ← hby]
      refine Nat.le_trans (Nat.mul_le_mul_right _ ?_) this
      omega
    · intro k y hk
      have hkl : k < len := by
        rcases Nat.lt_or_ge k len with h | h
        · exact h
        · rw [List.getElem?_eq_none (by omega)] at hk; cases hk
      rw [hys k hkl] at hk
      injection hk with hk
      subst hk
      obtain ⟨cs', hc, hcl, hr, _⟩ := (key k hkl).choose_spec
      obtain ⟨_, _, hat⟩ := World.cells?_some hc
      have hab : a.spot = none := by
        obtain ⟨cs0, hc0, hcl0, _, _⟩ := (key 0 (by omega)).choose_spec
        obtain ⟨_, _, hat0⟩ := World.cells?_some hc0
        have h00 := hat0 0 h0
        rw [List.getElem?_eq_getElem (by omega)] at h00
        have h1 := World.cell?_spot h00
        simpa [Addr.add] using h1
      have h00 := hat 0 h0
      rw [List.getElem?_eq_getElem (by omega)] at h00
      obtain ⟨g, o, sp⟩ := a
      simp only at hab
      subst hab
      have hadd : ∀ o n, (⟨g, o, none⟩ : Addr).add n = ⟨g, o + n, none⟩ := by intro o n; unfold Addr.add; split <;> simp_all
      refine ⟨g, o, cs', rfl, ?_, ?_, hcl, hr, fun j hj => ?_⟩
      · have := World.block_lt_of_cell? W _ h00
        simpa [Old, hadd] using this
      · have := World.block_lt_of_cell? W _ h00
        simpa [hadd] using this
      · have := hat j (by omega)
        rw [hadd, hadd] at this
        exact this
    · intro y hy
      obtain ⟨i, hi, rfl⟩ := List.getElem_of_mem hy
      have h1 := hys i (by omega)
      rw [List.getElem?_eq_getElem hi] at h1
      injection h1 with h1
      rw [h1]
      obtain ⟨_, _, _, _, hg⟩ := (key i (by omega)).choose_spec
      exact hg

theorem open_field {H : Type} {enc : TypeId × Value → H} {W : World} {spare : Nat → Bool} {held : Bool} {fuel : Nat} {cs : List Value} {x : DataW H × List MemPlace} {t sz : Nat} {fs : Array Field} {R : Rel α} {good : α → Prop}
    (hs : P.underlying t = some (.struct fs)) (hw : ∀ n ∈ DataW.weights P t x.1, n ≤ reachBytes) (h : DataW.trod enc P W 0 spare held fuel t cs = some x) (i : Nat) {f : Field} (hf : fs[i]? = some f)
    (hc : P.cellsOf f.type = sz) (ho : Opens P f.type sz R good) : ∃ y, ((cs.drop f.offset).take sz).length = sz ∧ R (Old W) W ((cs.drop f.offset).take sz) y ∧ good y := by
  obtain ⟨ys, n, _, rfl, _, hyl, hat⟩ := DataW.trod_struct hs h
  have hi := hat i f hf
  have hil : i < ys.length := by rw [hyl]; exact (Array.getElem?_eq_some_iff.1 hf).1
  rw [List.getElem?_eq_getElem hil, hc] at hi
  refine ho H enc W spare held n _ _ (fun q hq => hw q ?_) hi
  simp only [DataW.weights, hs]
  refine DataW.weights_mem_each (j := i) (t := f.type) (d := ys[i].1) ?_ ?_ q hq
  · rw [List.getElem?_map, Array.getElem?_toList, hf]; rfl
  · rw [List.getElem?_map, List.getElem?_eq_getElem hil]; rfl
theorem open_struct_len {H : Type} {enc : TypeId × Value → H} {W : World} {spare : Nat → Bool} {held : Bool} {fuel : Nat} {cs : List Value} {x : DataW H × List MemPlace} {t : Nat} {fs : Array Field}
    (hs : P.underlying t = some (.struct fs)) (h : DataW.trod enc P W 0 spare held fuel t cs = some x) : cs.length = P.cellsOf t := by
  obtain ⟨_, _, _, _, h, _⟩ := DataW.trod_struct hs h
  exact h

/-- A string parameter. -/
theorem opens_param {H : Type} {enc : TypeId × Value → H} {W : World} {ts : List TypeId} {ds : List (DataW H)} {spare : Nat → Bool} {held : Bool} {t sz j : Nat} {v : Value} {d : DataW H} {p : List MemPlace} {R : Rel α} {good : α → Prop}
    (hsz : (DataW.weightsEach P ts ds).all (· ≤ reachBytes) = true) (ho : Opens P t sz R good) (hj : ts[j]? = some t) (hd : ds[j]? = some d) (h : DataW.Trod enc P W 0 spare held t v d p) :
    ∃ y, v.cells.toList.length = sz ∧ R (Old W) W v.cells.toList y ∧ good y := by
  obtain ⟨fuel, hf⟩ := h
  exact ho H enc W spare held fuel _ _ (fun n hn => by
    have := List.all_eq_true.1 hsz _ (DataW.weights_mem_each hj hd n hn)
    simpa using this) hf

/-- The row's last step: what the call has made is new, what was there is as it was. -/
theorem post_law {H : Type} {enc : TypeId × Value → H} {f : Func} {s : ChangeSpec} {W W' : World} {args : Array Value} {v : Value} {ds gs : List (DataW H)} {before pa pv : List MemPlace}
    (hW : DataW.Whole enc P f.params.toList s.vars false W args.toList ds gs before) (hb : Below W.heap.size W W') (pr : List MemPlace)
    (hres : DataW.TrodAll enc P W' W.heap.size (fun _ => false) false f.resultTypes.toList (v.resultList f.resultTypes.size) (s.fn H (ds ++ gs)).results pr)
    (hargs : DataW.TrodAll enc P W' 0 (fun b => decide (b < W.heap.size)) true f.params.toList args.toList (s.fn H (ds ++ gs)).args pa)
    (hvars : DataW.TrodVars enc P W' (fun b => decide (b < W.heap.size)) s.vars (s.fn H (ds ++ gs)).vars pv) : s.post enc P f false true false false W args v W' :=
  ⟨_, _, _, pr, pa, pv, hW, hres, hargs, hvars, hb.frame _, fun h => by cases h⟩
end
end Go.Proofs.YtaadnlopifaagaaDoor
