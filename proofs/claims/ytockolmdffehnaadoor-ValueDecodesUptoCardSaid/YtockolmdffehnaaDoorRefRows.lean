/- Thirty-one rows of values that are being built, one behind the other in a block. -/
import Derived.Test.YtockolmdffehnaaDoorValueBuilt
import Derived.Test.YtockolmdffehnaaDoorWireRefDec
import Derived.Laws.OwnMore
namespace Go.Proofs.YtockolmdffehnaaDoor
open Go.RowKit

/-- Thirty-one rows of values, in a block at g; what the values read goes by T. -/
structure RowsG (base : Nat) (w : World) (g : Nat) (vs : List Value) (ls : Nat → List ValueD) (T : Nat → Prop) : Prop where
  hg : g < base
  hb : base ≤ w.heap.size
  len : vs.length = 31
  hT : ∀ y, T y → base ≤ y ∧ y < w.heap.size
  own : ∀ j (h : j < vs.length), Own base 28 5 RVal T w vs[j] (ls j)
  apart : ∀ i j (hi : i < vs.length) (hj : j < vs.length), i ≠ j → ∀ x, vs[i].ownBlock = some x → vs[j].ownBlock ≠ some x
section
variable {base : Nat} {w w' : World} {g : Nat} {vs : List Value} {ls : Nat → List ValueD} {T : Nat → Prop}
theorem RowsG.new (base : Nat) (w : World) (g : Nat) (hg : g < base) (hb : base ≤ w.heap.size) : RowsG base w g (List.replicate 31 (.slice none 0 0)) (fun _ => []) (fun _ => False) :=
  ⟨hg, hb, by simp, fun _ h => h.elim, fun j h => by rw [List.getElem_replicate]; exact Own.nil_ _ _ _ _ _ _, fun i j hi hj _ x hx => by rw [List.getElem_replicate] at hx; simp [Value.ownBlock] at hx⟩
theorem RowsG.below (h : RowsG base w g vs ls T) (hb : Below w.heap.size w w') : RowsG base w' g vs ls T :=
  ⟨h.hg, Nat.le_trans h.hb hb.size, h.len, fun y hy => ⟨(h.hT y hy).1, Nat.lt_of_lt_of_le (h.hT y hy).2 hb.size⟩, fun j hj => (h.own j hj).below RVal.fair hb, h.apart⟩
theorem RowsG.alloc (h : RowsG base w g vs ls T) (o : Obj) : RowsG base (w.alloc o) g vs ls T := h.below ((Below.refl _ _).alloc (Nat.le_refl _) o)
theorem RowsG.drew (h : RowsG base w g vs ls T) : RowsG base w.drew g vs ls T := h.below (below_drew (Below.refl _ _))
theorem RowsG.lt (h : RowsG base w g vs ls T) {j : Nat} (hj : j < vs.length) {x : Nat} (hx : vs[j].ownBlock = some x) : base ≤ x ∧ x < w.heap.size := (h.own j hj).lt hx
/-- Another block, written. -/
theorem RowsG.far (h : RowsG base w g vs ls T) {p : Addr} (hT : ¬ T p.block) (hv : ∀ j (hj : j < vs.length), vs[j].ownBlock ≠ some p.block) (u : Value) : RowsG base (w.setCell p u) g vs ls T :=
  ⟨h.hg, by have := h.hb; simpa [World.setCell] using this, h.len, fun y hy => by have := h.hT y hy; simpa [World.setCell] using this, fun j hj => (h.own j hj).setCell RVal.fair u (hv j hj) hT, h.apart⟩
theorem RowsG.near (h : RowsG base w g vs ls T) {p : Addr} (hp : p.block < base) (u : Value) : RowsG base (w.setCell p u) g vs ls T :=
  h.far (fun hT => by have := (h.hT _ hT).1; omega) (fun j hj e => by have := (h.lt hj e).1; omega) u
/-- A block that is newer than all of them, written. -/
theorem RowsG.farCells (h : RowsG base w g vs ls T) {x : Nat} (hT : ¬ T x) (hv : ∀ j (hj : j < vs.length), vs[j].ownBlock ≠ some x) : ∀ (cs : List Value) (i : Nat), RowsG base (setCells w x i cs) g vs ls T := by
  intro cs
  induction cs generalizing w with
  | nil => intro i; exact h
  | cons c cs ih => intro i; exact ih (h.far (p := ⟨x, i, none⟩) hT hv c) (i + 1)
/-- What a new value reads is added. -/
theorem RowsG.take (h : RowsG base w g vs ls T) {p q : Nat} (hp : base ≤ p) (hq : q ≤ w.heap.size) (hv : ∀ j (hj : j < vs.length) x, vs[j].ownBlock = some x → x < p ∨ q ≤ x) : RowsG base w g vs ls (fun y => T y ∨ (p ≤ y ∧ y < q)) :=
  ⟨h.hg, h.hb, h.len, fun y hy => by
    rcases hy with hy | hy
    · exact h.hT y hy
    · exact ⟨by omega, by omega⟩, fun j hj => (h.own j hj).mono RVal.fair (fun _ hy _ => .inl hy) (fun k hk hh => by
      obtain ⟨_, _, _, h3, _⟩ := h.own j hj
      rcases hh with hh | hh
      · exact h3 k hk hh
      · have := hv j hj k hk; omega), h.apart⟩
/-- A row has grown. -/
theorem RowsG.push (h : RowsG base w g vs ls T) {j : Nat} (hj : j < vs.length) {v' : Value} {x : ValueD} (ho : Own base 28 5 RVal T w' v' (ls j ++ [x])) (hg : w.grownBy w' vs[j].ownBlock) (hv : v'.ownBlock = vs[j].ownBlock ∨ v'.ownBlock = some w.heap.size) :
    RowsG base w' g (vs.set j v') (fun i => if i = j then ls j ++ [x] else ls i) T := by
  have hsz := hg.size
  have hnT : ∀ k, vs[j].ownBlock = some k → ¬ T k := by obtain ⟨_, _, _, h3, _⟩ := h.own j hj; exact h3
  refine ⟨h.hg, Nat.le_trans h.hb hsz, by simpa using h.len, fun y hy => ⟨(h.hT y hy).1, Nat.lt_of_lt_of_le (h.hT y hy).2 hsz⟩, fun i hi => ?_, fun i k hi hk hne y hy => ?_⟩
  · have hi' : i < vs.length := by simpa using hi
    by_cases e : i = j
    · subst e
      rw [List.getElem_set_self, if_pos rfl]; exact ho
    · rw [List.getElem_set_ne (fun h => e h.symm), if_neg e]
      refine (h.own i hi').kept RVal.fair hg ?_ hnT
      cases hv2 : vs[i].ownBlock with
      | none => exact .inl rfl
      | some y => exact .inr (fun e2 => h.apart i j hi' hj e y hv2 e2.symm)
  · have hi' : i < vs.length := by simpa using hi
    have hk' : k < vs.length := by simpa using hk
    by_cases e : i = j
    · subst e
      rw [List.getElem_set_self] at hy
      rw [List.getElem_set_ne hne]
      rcases hv with hv | hv
      · exact h.apart i k hi' hk' hne y (hv ▸ hy)
      · rw [hv] at hy
        injection hy with hy
        intro e2
        have := (h.lt hk' e2).2; omega
    · rw [List.getElem_set_ne (fun h => e h.symm)] at hy
      by_cases e2 : k = j
      · subst e2
        rw [List.getElem_set_self]
        rcases hv with hv | hv
        · rw [hv]; exact h.apart i k hi' hk' hne y hy
        · rw [hv]; intro e3; injection e3 with e3
          have := (h.lt hi' hy).2; omega
      · rw [List.getElem_set_ne (fun h => e2 h.symm)]
        exact h.apart i k hi' hk' hne y hy
theorem RowsG.row (h : RowsG base w g vs ls T) {j : Nat} (hj : j < vs.length) : ∃ A cap, vs[j] = .slice A (ls j).length cap ∧ (ls j).length ≤ cap := (h.own j hj).form
theorem RowsG.read (h : RowsG base w g vs ls T) {j : Nat} (hj : j < vs.length) (hl : (ls j).length * 80 ≤ 140737488351232) : RSl 5 80 RVal (fun y => base ≤ y ∧ y < w.heap.size) w [vs[j]] (ls j) :=
  (h.own j hj).read RVal.fair (fun y hy _ => h.hT y hy) (fun k hk => h.lt hj hk) hl
end
/-- The last of a row, written anew. -/
theorem Own.last {base : Nat} {w : World} {T : Nat → Prop} {g cap : Nat} {acc : List ValueD} {z x : ValueD} {c0 c1 c2 c3 c4 : Value}
    (h : Own base 28 5 RVal T w (.slice (some ⟨g, 0, none⟩) (acc.length + 1) cap) (acc ++ [z])) (hx : RVal T w [c0, c1, c2, c3, c4] x) (hT : ¬ T g) :
    Own base 28 5 RVal T (setCells w g (acc.length * 5) [c0, c1, c2, c3, c4]) (.slice (some ⟨g, 0, none⟩) (acc.length + 1) cap) (acc ++ [x]) ∧ w.grownBy (setCells w g (acc.length * 5) [c0, c1, c2, c3, c4]) (some g) := by
  obtain ⟨css, h1, h2, h3, h4⟩ := h
  have hl : (acc ++ [z]).length = acc.length + 1 := by simp
  rw [hl] at h1 h2
  obtain ⟨a1, g1⟩ := h1.stored (acc.length * 5) c0
  obtain ⟨a2, g2⟩ := a1.stored (acc.length * 5 + 1) c1
  obtain ⟨a3, g3⟩ := a2.stored (acc.length * 5 + 1 + 1) c2
  obtain ⟨a4, g4⟩ := a3.stored (acc.length * 5 + 1 + 1 + 1) c3
  obtain ⟨a5, g5⟩ := a4.stored (acc.length * 5 + 1 + 1 + 1 + 1) c4
  have hgr : w.grownBy (setCells w g (acc.length * 5) [c0, c1, c2, c3, c4]) (some g) :=
    grown_via (grown_via (grown_via (grown_via g1 g2 (.inl rfl)) g3 (.inl rfl)) g4 (.inl rfl)) g5 (.inl rfl)
  have hk : Keep T w (setCells w g (acc.length * 5) [c0, c1, c2, c3, c4]) := Keep.of_grown hgr (fun k e => by injection e with e; rw [← e]; exact hT)
  obtain ⟨P, c, rfl, hP, hc5⟩ : ∃ (P : List (List Value)) (c : List Value), css = P ++ [c] ∧ P.length = acc.length ∧ c.length = 5 := by
    have hlt : acc.length < css.length := by omega
    have := List.take_append_drop acc.length css
    rw [List.drop_eq_getElem_cons hlt, List.drop_eq_nil_of_le (by omega)] at this
    exact ⟨css.take acc.length, css[acc.length], this.symm, by simp; omega, (h4 acc.length z css[acc.length] (by simp) (List.getElem?_eq_getElem hlt)).1⟩
  have hall : ∀ x ∈ P, x.length = 5 := by
    intro y hy
    obtain ⟨i, hi, rfl⟩ := List.getElem_of_mem hy
    have hi2 : i < acc.length := by omega
    exact (h4 i acc[i] P[i] (by rw [List.getElem?_append_left hi2, List.getElem?_eq_getElem hi2]) (by rw [List.getElem?_append_left hi, List.getElem?_eq_getElem hi])).1
  have hfl : P.flatten.length = acc.length * 5 := by
    rw [flatten_len 5 _ hall, hP]
  refine ⟨⟨P ++ [[c0, c1, c2, c3, c4]], ?_, by simp; omega, h3, ?_⟩, hgr⟩
  · rw [show (acc ++ [x]).length = acc.length + 1 by simp]
    have e : (P ++ [[c0, c1, c2, c3, c4]]).flatten = ((((((P ++ [c]).flatten.set (acc.length * 5) c0).set (acc.length * 5 + 1) c1).set (acc.length * 5 + 1 + 1) c2).set (acc.length * 5 + 1 + 1 + 1) c3).set (acc.length * 5 + 1 + 1 + 1 + 1) c4) := by
      obtain ⟨d0, d1, d2, d3, d4, rfl⟩ : ∃ d0 d1 d2 d3 d4, c = [d0, d1, d2, d3, d4] := by
        match c, hc5 with
        | [d0, d1, d2, d3, d4], _ => exact ⟨d0, d1, d2, d3, d4, rfl⟩
      simp only [List.flatten_append, List.flatten_cons, List.flatten_nil, List.append_nil]
      generalize P.flatten = F at hfl ⊢
      rw [← hfl]
      have e1 : ∀ (F G : List Value) (n : Nat) (u : Value), (F ++ G).set (F.length + n) u = F ++ G.set n u := fun F G n u => by
        rw [List.set_append, if_neg (by omega)]; congr 2; omega
      have e0 : ∀ (F G : List Value) (u : Value), (F ++ G).set F.length u = F ++ G.set 0 u := fun F G u => e1 F G 0 u
      rw [e0, show F.length + 1 + 1 = F.length + 2 from rfl, show F.length + 2 + 1 = F.length + 3 from rfl, show F.length + 3 + 1 = F.length + 4 from rfl, e1, e1, e1, e1]
      rfl
    rw [e]; exact a5
  · intro k y cs hy hcs
    by_cases hk2 : k < acc.length
    · rw [List.getElem?_append_left hk2] at hy
      rw [List.getElem?_append_left (by omega)] at hcs
      have := h4 k y cs (by rw [List.getElem?_append_left hk2]; exact hy) (by rw [List.getElem?_append_left (by omega)]; exact hcs)
      exact ⟨this.1, RVal.fair.keep this.2 hk⟩
    · have hke : k = acc.length := by
        have := (List.getElem?_eq_some_iff.1 hy).1
        simp at this; omega
      subst hke
      rw [List.getElem?_append_right (by omega), hP] at hcs
      rw [List.getElem?_append_right (Nat.le_refl _)] at hy
      simp only [Nat.sub_self, List.getElem?_cons_zero, Option.some.injEq] at hy hcs
      subst hy hcs
      exact ⟨rfl, RVal.fair.keep hx hk⟩
/-- A row with something in it. -/
theorem Own.there {base : Nat} {w : World} {T : Nat → Prop} {v : Value} {acc : List ValueD} {z : ValueD} (h : Own base 28 5 RVal T w v (acc ++ [z])) : ∃ r cap, v = .slice (some ⟨r, 0, none⟩) (acc.length + 1) cap ∧ base ≤ r := by
  obtain ⟨css, h1, _⟩ := h
  have hl : (acc ++ [z]).length = acc.length + 1 := by simp
  rw [hl] at h1
  rcases h1.2 with ⟨_, h0⟩ | ⟨g, cap, cur, h0, hb, _⟩
  · omega
  · exact ⟨g, cap, h0, hb⟩
/-- The last cells of a row. -/
theorem Own.tail {base : Nat} {w : World} {T : Nat → Prop} {r cap : Nat} {acc : List ValueD} {z : ValueD} (h : Own base 28 5 RVal T w (.slice (some ⟨r, 0, none⟩) (acc.length + 1) cap) (acc ++ [z])) :
    (∀ i < 5, ∃ u, w.cell? ⟨r, acc.length * 5 + i, none⟩ = some u) ∧ (∀ i, w.frozen? ⟨r, i, none⟩ = false) ∧ r < w.heap.size := by
  obtain ⟨css, h1, h2, _⟩ := h
  have hl : (acc ++ [z]).length = acc.length + 1 := by simp
  rw [hl] at h1
  refine ⟨fun i hi => ?_, fun i => h1.frozenAt i, (h1.lt r rfl).2⟩
  have hx := h1.1
  rw [h1.cellAt _ (by omega)]
  exact ⟨_, List.getElem?_eq_getElem (by omega)⟩
/-- The last of a row among the rows, written anew. -/
theorem RowsG.last {base : Nat} {w : World} {g : Nat} {vs : List Value} {ls : Nat → List ValueD} {T : Nat → Prop} (h : RowsG base w g vs ls T) {j r cap : Nat} (hj : j < vs.length) {acc : List ValueD} {z x : ValueD} {c0 c1 c2 c3 c4 : Value}
    (hl : ls j = acc ++ [z]) (hv : vs[j] = .slice (some ⟨r, 0, none⟩) (acc.length + 1) cap) (hx : RVal T w [c0, c1, c2, c3, c4] x) :
    RowsG base (setCells w r (acc.length * 5) [c0, c1, c2, c3, c4]) g vs (fun i => if i = j then acc ++ [x] else ls i) T ∧ base ≤ r := by
  have ho := h.own j hj
  have hnT : ¬ T r := by obtain ⟨_, _, _, h3, _⟩ := ho; exact h3 r (by rw [hv]; rfl)
  have hr := h.lt hj (x := r) (by rw [hv]; rfl)
  rw [hl, hv] at ho
  obtain ⟨ho2, hg⟩ := Own.last ho hx hnT
  have hsz := hg.size
  refine ⟨⟨h.hg, Nat.le_trans h.hb hsz, h.len, fun y hy => ⟨(h.hT y hy).1, Nat.lt_of_lt_of_le (h.hT y hy).2 hsz⟩, fun i hi => ?_, h.apart⟩, hr.1⟩
  by_cases e : i = j
  · subst e
    rw [if_pos rfl, hv]; exact ho2
  · rw [if_neg e]
    refine (h.own i hi).kept RVal.fair hg ?_ (fun k hk => by injection hk with hk; rw [← hk]; exact hnT)
    cases hv2 : vs[i].ownBlock with
    | none => exact .inl rfl
    | some y => exact .inr (fun e2 => h.apart i j hi hj e y hv2 (by rw [hv]; exact e2.symm))
/-- What a callee has made new lies between its world and the one that it left. -/
theorem RVal.cut {W W' : World} {cs : List Value} {x : ValueD} (h : RVal (New W) W' cs x) : RVal (fun y => W.heap.size ≤ y ∧ y < W'.heap.size) W' cs x := RVal.fair.mono h fun _ h1 h2 => ⟨h1, h2⟩
end Go.Proofs.YtockolmdffehnaaDoor
