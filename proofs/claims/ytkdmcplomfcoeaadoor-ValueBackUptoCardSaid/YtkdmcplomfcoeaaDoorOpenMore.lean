/- Slices that come in, element by element. -/
import Derived.Test.YtkdmcplomfcoeaaDoorOpen
namespace Go.Proofs.YtkdmcplomfcoeaaDoor
open Go.RowKit Go.ChangeShapes Go.WideShapes Go.Deep

/-- A slice that comes in: nothing, or elements each of which reads, and is of its datum as Q says. -/
theorem open_slice_by {α : Type} {P : Program} {t e sz by_ : Nat} {R : Rel α} {H : Type} {enc : TypeId × Value → H} {W : World} {spare : Nat → Bool} {held : Bool} {fuel : Nat} {cs : List Value} {x : DataW H × List MemPlace} {Q : DataW H → α → Prop}
    (ht : P.underlying t = some (.slice e)) (hsz : P.cellsOf e = sz) (h0 : 0 < sz) (hby : P.bytesOf e = by_)
    (hw : ∀ n ∈ DataW.weights P t x.1, n ≤ reachBytes) (hx : DataW.trod enc P W 0 spare held fuel t cs = some x)
    (ho : ∀ (n : Nat) (cs' : List Value) (x' : DataW H × List MemPlace), (∃ elems sp, x.1 = .slice elems sp ∧ x'.1 ∈ elems) → (∀ q ∈ DataW.weights P e x'.1, q ≤ reachBytes) → DataW.trod enc P W 0 spare held n e cs' = some x' → ∃ y, cs'.length = sz ∧ R (Old W) W cs' y ∧ Q x'.1 y) :
    ∃ ys, cs.length = 1 ∧ RSl sz by_ R (Old W) W cs ys ∧ ((x.1 = .nil ∧ ys = []) ∨ ∃ elems sp, x.1 = .slice elems sp ∧ elems.length = ys.length ∧ ∀ i (h : i < elems.length) (h' : i < ys.length), Q elems[i] ys[i]) := by
  rcases open_slice ht hx with ⟨rfl, rfl⟩ | ⟨a, len, cap, m, n, D, Pl, rfl, hb, hl, hm, hmm, rfl, hi⟩
  · exact ⟨[], rfl, RSl.nil_, .inl ⟨rfl, rfl⟩⟩
  · subst hsz
    have hlm : len ≤ m := by rw [hmm]; split <;> omega
    have key : ∀ i, i < len → ∃ y cs', W.cells? 0 (a.add (i * P.cellsOf e)) (P.cellsOf e) = some cs' ∧ cs'.length = P.cellsOf e ∧ R (Old W) W cs' y ∧ Q (D i) y := by
      intro i hil
      obtain ⟨cs', hc, htr⟩ := hi i (by omega)
      have hin : D i ∈ (List.range len).map D := List.mem_map.2 ⟨i, by simpa using hil, rfl⟩
      obtain ⟨y, h1, h2, h3⟩ := ho n cs' (D i, Pl i) ⟨_, _, rfl, hin⟩ (fun q hq => hw q (by
        simp only [DataW.weights, ht, List.mem_cons, List.mem_append]
        exact .inr (.inl (weights_all hin hq)))) htr
      exact ⟨y, cs', hc, h1, h2, h3⟩
    let f : Nat → Option α := fun i => if h : i < len then some (key i h).choose else none
    have hf : ∀ i (h : i < len), f i = some (key i h).choose := fun i h => by simp only [f]; rw [dif_pos h]
    let ys : List α := (List.range len).pmap (fun i (h : i < len) => (key i h).choose) (fun i hi => by simpa using hi)
    have hyl : ys.length = len := by simp [ys]
    have hys : ∀ i (h : i < len), ys[i]? = some (key i h).choose := by
      intro i h
      simp [ys, List.getElem?_pmap, List.getElem?_range h]
    refine ⟨ys, rfl, ⟨some a, cap, by rw [hyl], by omega, ?_, ?_⟩, .inr ⟨_, _, rfl, by simp [hyl], fun i h h' => ?_⟩⟩
    · have := hw ((((List.range len).map D).length + ((List.range (m - len)).map fun j => D (len + j)).length) * P.bytesOf e) (by simp [DataW.weights, ht])
      simp only [List.length_map, List.length_range, reachBytes] at this
      rw [hyl, ← hby]
      refine Nat.le_trans (Nat.mul_le_mul_right _ ?_) this
      omega
    · intro k y hk
      have hkl : k < len := by
        rcases Nat.lt_or_ge k len with h | h
        · exact h
        · rw [List.getElem?_eq_none (by omega)] at hk; cases hk
      rw [hys k hkl] at hk
      injection hk with hk
      subst hk
      obtain ⟨cs', hc, hcl, hr, _⟩ := (key k hkl).choose_spec
      obtain ⟨_, _, hat⟩ := World.cells?_some hc
      have hab : a.spot = none := by
        obtain ⟨cs0, hc0, hcl0, _, _⟩ := (key 0 (by omega)).choose_spec
        obtain ⟨_, _, hat0⟩ := World.cells?_some hc0
        have h00 := hat0 0 h0
        rw [List.getElem?_eq_getElem (by omega)] at h00
        have h1 := World.cell?_spot h00
        simpa [Addr.add] using h1
      have h00 := hat 0 h0
      rw [List.getElem?_eq_getElem (by omega)] at h00
      obtain ⟨g, o, sp⟩ := a
      simp only at hab
      subst hab
      have hadd : ∀ o n, (⟨g, o, none⟩ : Addr).add n = ⟨g, o + n, none⟩ := by intro o n; unfold Addr.add; split <;> simp_all
      refine ⟨g, o, cs', rfl, ?_, ?_, hcl, hr, fun j hj => ?_⟩
      · have := World.block_lt_of_cell? W _ h00
        simpa [Old, hadd] using this
      · have := World.block_lt_of_cell? W _ h00
        simpa [hadd] using this
      · have := hat j (by omega)
        rw [hadd, hadd] at this
        exact this
    · have hil : i < len := by simpa using h
      have h1 := hys i hil
      rw [List.getElem?_eq_getElem h'] at h1
      injection h1 with h1
      rw [h1]
      have : ((List.range len).map D)[i] = D i := by simp
      rw [this]
      obtain ⟨_, _, _, _, hg⟩ := (key i hil).choose_spec
      exact hg
end Go.Proofs.YtkdmcplomfcoeaaDoor
