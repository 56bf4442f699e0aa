/- Words for memory: what a world keeps, slices that read as lists, rows of the call's own. Nothing here names the program. -/
import Derived.WalkKit
import Derived.WalkSpells
import Derived.WalkLawsBesides
import Derived.Deep.QuietTactic
import Derived.BigQuiet
import Derived.Lib.Hide
import Derived.Maps.AppendAt
import Derived.Deep.AppendLies
namespace Go.Proofs.YtaadnlopifaagaaDoor
open Go.RowKit

/-- The blocks of S that are there are kept. -/
def Keep (S : Nat → Prop) (w w' : World) : Prop := w.heap.size ≤ w'.heap.size ∧ ∀ g, S g → g < w.heap.size → w'.heap[g]? = w.heap[g]?

theorem Keep.refl (S : Nat → Prop) (w : World) : Keep S w w := ⟨Nat.le_refl _, fun _ _ _ => rfl⟩
theorem Keep.trans {S : Nat → Prop} {a b c : World} (h : Keep S a b) (k : Keep S b c) : Keep S a c :=
  ⟨Nat.le_trans h.1 k.1, fun g hs hg => (k.2 g hs (Nat.lt_of_lt_of_le hg h.1)).trans (h.2 g hs hg)⟩
theorem Keep.of_below {S : Nat → Prop} {w w' : World} (h : Below w.heap.size w w') : Keep S w w' := ⟨h.size, fun g _ hg => h.block g hg⟩
theorem Keep.of_grown {S : Nat → Prop} {w w' : World} {row : Option Nat} (h : w.grownBy w' row) (hr : ∀ k, row = some k → ¬ S k) : Keep S w w' :=
  ⟨h.size, fun g hs hg => h.block g hg (fun e => hr g e.symm hs)⟩
theorem Keep.alloc (S : Nat → Prop) (w : World) (o : Obj) : Keep S w (w.alloc o) := ⟨by simp, fun g _ hg => Below.heap_alloc w o g hg⟩
theorem Keep.setCell {S : Nat → Prop} (w : World) {a : Addr} (u : Value) (ha : ¬ S a.block) : Keep S w (w.setCell a u) :=
  ⟨by simp [World.setCell], fun g hs _ => Below.heap_setCell w a u g (fun e => ha (e ▸ hs))⟩
theorem Keep.drew (S : Nat → Prop) (w : World) : Keep S w w.drew := ⟨Nat.le_refl _, fun _ _ _ => rfl⟩
theorem Keep.drewN (S : Nat → Prop) (w : World) (n : Nat) : Keep S w (w.drewN n) := ⟨Nat.le_refl _, fun _ _ _ => rfl⟩
theorem Keep.mono {S T : Nat → Prop} {w w' : World} (h : Keep S w w') (hs : ∀ g, T g → S g) : Keep T w w' := ⟨h.1, fun g hg => h.2 g (hs g hg)⟩

/-- The cells cs lie at block g from place o on. -/
def Lies (w : World) (g o : Nat) (cs : List Value) : Prop := ∀ j, j < cs.length → w.cell? ⟨g, o + j, none⟩ = cs[j]?

theorem Lies.keep {S : Nat → Prop} {w w' : World} {g o : Nat} {cs : List Value} (h : Lies w g o cs) (hk : Keep S w w') (hg : S g) : Lies w' g o cs := fun j hj => by
  have h1 := h j hj
  rw [List.getElem?_eq_getElem hj] at h1
  have hlt := World.block_lt_of_cell? w _ h1
  rw [World.cell?_of_block (w := w) (hk.2 g hg hlt), List.getElem?_eq_getElem hj]
  exact h1
theorem Lies.at_ {w : World} {g o : Nat} {cs : List Value} (h : Lies w g o cs) (j : Nat) {u : Value} (hj : cs[j]? = some u) : w.cell? ⟨g, o + j, none⟩ = some u := by
  have hl : j < cs.length := by
    rcases Nat.lt_or_ge j cs.length with h | h
    · exact h
    · rw [List.getElem?_eq_none h] at hj; cases hj
  rw [h j hl, hj]

/-- How cells read as a datum, out of the blocks S of a world. -/
abbrev Rel (α : Type) := (Nat → Prop) → World → List Value → α → Prop

/-- A reading that hangs on the blocks of S alone. -/
structure Fair {α : Type} (R : Rel α) : Prop where
  keep : ∀ {S w w' cs x}, R S w cs x → Keep S w w' → R S w' cs x
  mono : ∀ {S T w cs x}, R S w cs x → (∀ g, S g → g < w.heap.size → T g) → R T w cs x

/-- The slice v reads as the list xs: elements of sz cells and by_ bytes. -/
def RSl {α : Type} (sz by_ : Nat) (R : Rel α) : Rel (List α) := fun S w cs xs =>
  ∃ A cap, cs = [.slice A xs.length cap] ∧ xs.length ≤ cap ∧ xs.length * by_ ≤ 140737488351232 ∧
    ∀ k x, xs[k]? = some x → ∃ g o es, A = some ⟨g, o, none⟩ ∧ S g ∧ g < w.heap.size ∧ es.length = sz ∧ R S w es x ∧ Lies w g (o + k * sz) es

theorem RSl.fair {α : Type} {sz by_ : Nat} {R : Rel α} (hR : Fair R) : Fair (RSl sz by_ R) := ⟨by
    rintro S w w' cs xs ⟨A, cap, h1, h2, h3, h4⟩ hk
    refine ⟨A, cap, h1, h2, h3, fun k x hx => ?_⟩
    obtain ⟨g, o, es, ha, hs, hg, hl, hr, hc⟩ := h4 k x hx
    exact ⟨g, o, es, ha, hs, Nat.lt_of_lt_of_le hg hk.1, hl, hR.keep hr hk, hc.keep hk hs⟩, by
    rintro S T w cs xs ⟨A, cap, h1, h2, h3, h4⟩ hm
    refine ⟨A, cap, h1, h2, h3, fun k x hx => ?_⟩
    obtain ⟨g, o, es, ha, hs, hg, hl, hr, hc⟩ := h4 k x hx
    exact ⟨g, o, es, ha, hm g hs hg, hg, hl, hR.mono hr hm, hc⟩⟩

/-- Cells that are written out by the datum alone. -/
def RFlat {α : Type} (enc : α → List Value) : Rel α := fun _ _ cs x => cs = enc x
theorem RFlat.fair {α : Type} (enc : α → List Value) : Fair (RFlat enc) := ⟨fun h _ => h, fun h _ => h⟩
def RInt : Rel Int := RFlat fun x => [.int .i64 x]
theorem RInt.fair : Fair RInt := RFlat.fair _
def RStr : Rel ByteArray := RFlat fun x => [.string x]
theorem RStr.fair : Fair RStr := RFlat.fair _

section
variable {α : Type} {sz by_ : Nat} {R : Rel α} {S : Nat → Prop} {w : World} {v : Value} {xs : List α}
/-- A slice's outer form. -/
theorem RSl.form (h : RSl sz by_ R S w [v] xs) : ∃ A cap, v = .slice A xs.length cap ∧ xs.length ≤ cap ∧ xs.length * by_ ≤ 140737488351232 := by
  obtain ⟨A, cap, h1, h2, h3, _⟩ := h
  exact ⟨A, cap, by simpa using h1, h2, h3⟩
/-- Its element k. -/
theorem RSl.at_ {A : Option Addr} {n cap k : Nat} (h : RSl sz by_ R S w [.slice A n cap] xs) (hk : k < xs.length) :
    ∃ g o es, A = some ⟨g, o, none⟩ ∧ S g ∧ g < w.heap.size ∧ es.length = sz ∧ R S w es xs[k] ∧ Lies w g (o + k * sz) es := by
  obtain ⟨A', cap', h1, _, _, h4⟩ := h
  obtain ⟨rfl, _, _⟩ : A = A' ∧ n = xs.length ∧ cap = cap' := by simpa using h1
  exact h4 k _ (List.getElem?_eq_getElem hk)
theorem RSl.len {A : Option Addr} {n cap : Nat} (h : RSl sz by_ R S w [.slice A n cap] xs) : n = xs.length := by
  obtain ⟨A', cap', h1, _⟩ := h
  simp at h1; exact h1.2.1
theorem RSl.nil_ : RSl sz by_ R S w [.slice none 0 0] ([] : List α) := ⟨none, 0, by simp, by simp, by simp, fun k x hx => by simp at hx⟩
end

/-- A slice of the call's own that reads as xs: the row may be written; the elements' own readings go by T, which leaves the row out. -/
def Own {α : Type} (base e sz : Nat) (R : Rel α) (T : Nat → Prop) (w : World) (v : Value) (xs : List α) : Prop :=
  ∃ css : List (List Value), w.ownsRow base e sz v xs.length css.flatten ∧ css.length = xs.length ∧ (∀ k, v.ownBlock = some k → ¬ T k) ∧
    ∀ (k : Nat) (x : α) (cs : List Value), xs[k]? = some x → css[k]? = some cs → cs.length = sz ∧ R T w cs x

section
variable {α : Type} {base e sz by_ : Nat} {R : Rel α} {T : Nat → Prop} {w w' : World} {v : Value} {xs : List α}
theorem Own.nil_ (base e sz : Nat) (R : Rel α) (T : Nat → Prop) (w : World) : Own base e sz R T w (.slice none 0 0) ([] : List α) :=
  ⟨[], World.ownsRow_nil _ _ _ _, rfl, fun k hk => by simp [Value.ownBlock] at hk, fun k x cs hx => by simp at hx⟩
theorem Own.lt (h : Own base e sz R T w v xs) {k : Nat} (hk : v.ownBlock = some k) : base ≤ k ∧ k < w.heap.size := by
  obtain ⟨css, h1, _⟩ := h; exact h1.lt k hk
/-- Kept by what writes another row. -/
theorem Own.kept (hR : Fair R) (h : Own base e sz R T w v xs) {row : Option Nat} (hg : w.grownBy w' row) (hne : v.ownBlock = none ∨ v.ownBlock ≠ row) (hT : ∀ k, row = some k → ¬ T k) : Own base e sz R T w' v xs := by
  obtain ⟨css, h1, h2, h3, h4⟩ := h
  exact ⟨css, h1.kept hg hne, h2, h3, fun k x cs hx hc => ⟨(h4 k x cs hx hc).1, hR.keep (h4 k x cs hx hc).2 (Keep.of_grown hg hT)⟩⟩
theorem Own.alloc (hR : Fair R) (h : Own base e sz R T w v xs) (o : Obj) : Own base e sz R T (w.alloc o) v xs :=
  h.kept hR (World.grownBy_alloc w o none) (by cases hv : v.ownBlock <;> simp) (by simp)
theorem Own.mono (hR : Fair R) (h : Own base e sz R T w v xs) {T' : Nat → Prop} (hT : ∀ g, T g → g < w.heap.size → T' g) (hv : ∀ k, v.ownBlock = some k → ¬ T' k) : Own base e sz R T' w v xs := by
  obtain ⟨css, h1, h2, h3, h4⟩ := h
  exact ⟨css, h1, h2, hv, fun k x cs hx hc => ⟨(h4 k x cs hx hc).1, hR.mono (h4 k x cs hx hc).2 hT⟩⟩
end

/-- v is the row that is known, or a newer one. -/
def Newer (w : World) (row : Option Nat) (v : Value) : Prop := v.ownBlock = row ∨ ∀ k, v.ownBlock = some k → w.heap.size ≤ k
theorem grown_via {a b c : World} {row row2 : Option Nat} (h : a.grownBy b row) (k : b.grownBy c row2) (hr : row2 = row ∨ ∀ k, row2 = some k → a.heap.size ≤ k) : a.grownBy c row :=
  ⟨k.os.trans h.os, k.tape.trans h.tape, k.output.trans h.output, Nat.le_trans h.size k.size, fun i hi hne => by
    refine (k.block i (Nat.lt_of_lt_of_le hi h.size) (fun e => ?_)).trans (h.block i hi hne)
    rcases hr with hr | hr
    · exact hne (e.trans hr)
    · have := hr i e.symm; omega⟩
theorem grown_alloc {a b : World} {row : Option Nat} (h : a.grownBy b row) (o : Obj) : a.grownBy (b.alloc o) row :=
  grown_via h (World.grownBy_alloc b o row) (.inl rfl)
theorem grown_below {a b : World} (h : Below a.heap.size a b) (row : Option Nat) : a.grownBy b row := ⟨h.os, h.tape, h.output, h.size, fun i hi _ => h.block i hi⟩
theorem grown_setCell {a b : World} {row : Option Nat} (h : a.grownBy b row) {p : Addr} (hp : some p.block = row ∨ a.heap.size ≤ p.block) (u : Value) : a.grownBy (b.setCell p u) row :=
  ⟨h.os, h.tape, h.output, by simpa [World.setCell] using h.size, fun i hi hne => (Below.heap_setCell b p u i (by
    rintro rfl
    rcases hp with hp | hp
    · exact hne hp
    · omega)).trans (h.block i hi hne)⟩
theorem grown_drew {a b : World} {row : Option Nat} (h : a.grownBy b row) : a.grownBy b.drew row := ⟨h.os, h.tape, h.output, h.size, h.block⟩
theorem Newer.step {a b : World} {row : Option Nat} {v v' : Value} {n : Nat} (h : Newer a row v) (h' : v'.ownBlock = v.ownBlock ∨ v'.ownBlock = some n) (hs : a.heap.size ≤ b.heap.size) (hn : b.heap.size ≤ n) : Newer a row v' := by
  rcases h' with h' | h'
  · unfold Newer; rw [h']; exact h
  · right; intro k hk; rw [h'] at hk; cases hk; omega
theorem Newer.trans {a b : World} {v v' : Value} {row : Option Nat} (h : Newer a row v) (h' : Newer b v.ownBlock v') (hs : a.heap.size ≤ b.heap.size) : Newer a row v' := by
  rcases h' with h' | h'
  · unfold Newer; rw [h']; exact h
  · right; intro k hk; have := h' k hk; omega

/-- The slice type t has elements of type e, of sz cells and by_ bytes. -/
def SlInfo (P : Program) (t e sz by_ : Nat) : Prop :=
  P.underlying t = some (.slice e) ∧ 0 < sz ∧ 0 < by_ ∧ ∃ i z, P.info? e = some i ∧ i.zero = some z ∧ i.size = sz ∧ i.bytes = by_ ∧ z.cells.size = sz
theorem SlInfo.mk {P : Program} {t e sz by_ : Nat} {z : Value} (h1 : P.underlying t = some (.slice e)) (h2 : 0 < sz) (h3 : 0 < by_)
    (h4 : (P.info? e).map (fun i => (i.zero, i.size, i.bytes)) = some (some z, sz, by_)) (h5 : z.cells.size = sz) : SlInfo P t e sz by_ := by
  obtain ⟨i, hi, hz, hs, hb⟩ := info_parts h4
  exact ⟨h1, h2, h3, i, z, hi, hz, hs, hb, h5⟩

theorem flatten_get {α : Type} : ∀ (l : List (List α)) (n k j : Nat) (c : List α), (∀ x ∈ l, x.length = n) → l[k]? = some c → j < n → l.flatten[k * n + j]? = c[j]?
  | [], n, k, j, c, _, h, _ => by simp at h
  | x :: l, n, 0, j, c, hn, h, hj => by
    simp at h; subst h
    rw [List.flatten_cons, Nat.zero_mul, Nat.zero_add, List.getElem?_append_left (by rw [hn x (by simp)]; exact hj)]
  | x :: l, n, k + 1, j, c, hn, h, hj => by
    have hx := hn x (by simp)
    rw [List.flatten_cons, List.getElem?_append_right (by rw [hx, Nat.add_mul]; omega), hx]
    have := flatten_get l n k j c (fun y hy => hn y (by simp [hy])) (by simpa using h) hj
    rw [← this]; congr 1; rw [Nat.add_mul]; omega
theorem flatten_len {α : Type} (n : Nat) : ∀ (l : List (List α)), (∀ x ∈ l, x.length = n) → l.flatten.length = l.length * n
  | [], _ => by simp
  | x :: l, h => by rw [List.flatten_cons, List.length_append, h x (by simp), flatten_len n l (fun y hy => h y (by simp [hy])), List.length_cons, Nat.add_mul]; omega

/-- Cells that lists of cells make up, each of one cell. -/
def Ones (cs : List Value) : Prop := ∀ u ∈ cs, u.oneCell' = true

section
variable {α : Type} {P : Program} {w : World} {R : Rel α} {T : Nat → Prop}
/-- What a source tells of its elements: their cells, and how they read. -/
def Src (sz : Nat) (R : Rel α) (T : Nat → Prop) (w : World) (A : Option Addr) (ys : List α) : Prop :=
  ∃ css : List (List Value), css.length = ys.length ∧ (∀ x ∈ css, x.length = sz ∧ Ones x) ∧
    (∀ (k : Nat) (y : α) (cs : List Value), ys[k]? = some y → css[k]? = some cs → R T w cs y) ∧
    (∀ j u, css.flatten[j]? = some u → ∃ ad, A = some ad ∧ w.cell? (ad.add j) = some u)

theorem Src.nil_ (sz : Nat) (R : Rel α) (T : Nat → Prop) (w : World) (A : Option Addr) : Src sz R T w A ([] : List α) :=
  ⟨[], rfl, by simp, fun k y cs h => by simp at h, fun j u h => by simp at h⟩
theorem Src.one {sz g : Nat} {es : List Value} {y : α} (hl : es.length = sz) (h1 : Ones es) (hr : R T w es y) (hc : Lies w g 0 es) : Src sz R T w (some ⟨g, 0, none⟩) [y] := by
  refine ⟨[es], rfl, ?_, ?_, ?_⟩
  · simpa using ⟨hl, h1⟩
  · intro k y' cs hy hcs
    cases k with
    | zero => simp at hy hcs; subst hy; subst hcs; exact hr
    | succ k => simp at hy
  · intro j u hj
    simp at hj
    refine ⟨_, rfl, ?_⟩
    have := hc.at_ j hj
    have hadd : (⟨g, 0, none⟩ : Addr).add j = ⟨g, 0 + j, none⟩ := by unfold Addr.add; split <;> simp_all
    rw [hadd]; exact this
theorem Lies.new (w : World) (cs : List Value) (e : TypeId) : Lies (w.alloc (.cells cs.toArray e)) w.heap.size 0 cs := by
  intro j hj
  rw [Nat.zero_add, cell_of_row (w.alloc (.cells cs.toArray e)) w.heap.size j cs.toArray e (0, 0) (heap_alloc_new w _)]
  simp
theorem Ones.of_all {cs : List Value} (h : cs.all (fun u => u.oneCell') = true) : Ones cs := fun u hu => by
  simpa using List.all_eq_true.1 h u hu
/-- Elements that read so are of one cell each. -/
def OneCells (R : Rel α) : Prop := ∀ {S w cs x}, R S w cs x → Ones cs
theorem RSl.src {sz by_ cap n : Nat} {A : Option Addr} {xs : List α} (h0 : 0 < sz) (ho : OneCells R) (h : RSl sz by_ R T w [.slice A n cap] xs) : Src sz R T w A xs := by
  by_cases hx : xs.length = 0
  · have : xs = [] := List.eq_nil_of_length_eq_zero hx
    subst this; exact Src.nil_ _ _ _ _ _
  obtain ⟨g, o, _, hA, _⟩ := h.at_ (k := 0) (by omega)
  subst hA
  have hk : ∀ k, k < xs.length → ∃ es : List Value, es.length = sz ∧ (∀ x, xs[k]? = some x → R T w es x) ∧ Lies w g (o + k * sz) es := by
    intro k hk
    obtain ⟨g', o', es, ha, _, _, hl, hr, hc⟩ := h.at_ hk
    simp at ha
    obtain ⟨rfl, rfl⟩ := ha
    exact ⟨es, hl, fun x hx => by rw [List.getElem?_eq_getElem hk] at hx; cases hx; exact hr, hc⟩
  let f : Nat → List Value := fun k => if hk' : k < xs.length then (hk k hk').choose else []
  have hf : ∀ k (hk' : k < xs.length), f k = (hk k hk').choose := fun k hk' => by simp only [f]; rw [dif_pos hk']
  refine ⟨(List.range xs.length).map f, by simp, ?_, ?_, ?_⟩
  · intro x hx
    simp only [List.mem_map, List.mem_range] at hx
    obtain ⟨k, hk', rfl⟩ := hx
    rw [hf k hk']
    exact ⟨(hk k hk').choose_spec.1, ho ((hk k hk').choose_spec.2.1 _ (List.getElem?_eq_getElem hk'))⟩
  · intro k y cs hy hcs
    have hk' : k < xs.length := by
      rcases Nat.lt_or_ge k xs.length with h | h
      · exact h
      · rw [List.getElem?_eq_none h] at hy; cases hy
    simp [List.getElem?_range hk'] at hcs
    subst hcs
    rw [hf k hk']
    exact (hk k hk').choose_spec.2.1 y hy
  · intro j u hj
    refine ⟨_, rfl, ?_⟩
    have hall : ∀ x ∈ (List.range xs.length).map f, x.length = sz := by
      intro x hx
      simp only [List.mem_map, List.mem_range] at hx
      obtain ⟨k, hk', rfl⟩ := hx
      rw [hf k hk']; exact (hk k hk').choose_spec.1
    have hjl : j < xs.length * sz := by
      have := flatten_len sz _ hall
      rw [List.length_map, List.length_range] at this
      rw [← this]
      rcases Nat.lt_or_ge j ((List.range xs.length).map f).flatten.length with h | h
      · exact h
      · rw [List.getElem?_eq_none h] at hj; cases hj
    have hq : j / sz < xs.length := Nat.div_lt_of_lt_mul (by rw [Nat.mul_comm]; exact hjl)
    have hr : j % sz < sz := Nat.mod_lt _ h0
    have hjd : j / sz * sz + j % sz = j := Nat.div_add_mod' j sz
    have := flatten_get ((List.range xs.length).map f) sz (j / sz) (j % sz) (f (j / sz)) hall (by simp [List.getElem?_range hq]) hr
    rw [hjd, hj] at this
    rw [hf _ hq] at this
    have hc := (hk _ hq).choose_spec.2.2.at_ (j % sz) this.symm
    have hadd : (⟨g, o, none⟩ : Addr).add j = ⟨g, o + j / sz * sz + j % sz, none⟩ := by
      rw [Nat.add_assoc, hjd]; unfold Addr.add; split <;> simp_all
    rw [hadd]; exact hc

/-- 'out = append(out, ys...)', out the call's own. -/
theorem run_append_src (w : World) {t ty e sz by_ base : Nat} {v : Value} {xs ys : List α} {A : Option Addr} {c : Nat} (hi : SlInfo P t e sz by_) (hR : Fair R)
    (hown : Own base e sz R T w v xs) (hsrc : Src sz R T w A ys) (hT : ∀ g, T g → g < w.heap.size) (hb : (xs.length + ys.length) * by_ ≤ 140737488355328) (hbase : base ≤ w.heap.size) :
    ∃ v' w', (Builtin.append_ #[t, t] ty #[v, .slice A ys.length c]).run P w = .ok v' w' ∧ Own base e sz R T w' v' (xs ++ ys) ∧ w.grownBy w' v.ownBlock ∧ (v'.ownBlock = v.ownBlock ∨ v'.ownBlock = some w.heap.size) := by
  obtain ⟨ht, h0, hby, i, z, hi1, hz, hs, hbb, hzs⟩ := hi
  obtain ⟨css, ho1, ho2, ho3, ho4⟩ := hown
  obtain ⟨ds, hd1, hd2, hd3, hd4⟩ := hsrc
  have hlen : ds.flatten.length = ys.length * sz := by rw [flatten_len sz ds (fun x hx => (hd2 x hx).1), hd1]
  have hone : ∀ u ∈ ds.flatten, u.oneCell' = true := by
    intro u hu
    obtain ⟨l, hl, hu⟩ := List.mem_flatten.1 hu
    exact (hd2 l hl).2 u hu
  have hle : xs.length + ys.length ≤ maxLen := by
    have : (xs.length + ys.length) * 1 ≤ (xs.length + ys.length) * by_ := Nat.mul_le_mul_left _ hby
    unfold maxLen; omega
  have fin : ∀ v' w', w'.ownsRow base e sz v' (xs.length + ys.length) (css.flatten ++ ds.flatten) → w.grownBy w' v.ownBlock → (v'.ownBlock = v.ownBlock ∨ v'.ownBlock = some w.heap.size) → Own base e sz R T w' v' (xs ++ ys) := by
    intro v' w' h1 h2 h3
    refine ⟨css ++ ds, by rw [List.length_append, List.flatten_append]; exact h1, by simp [ho2, hd1], ?_, ?_⟩
    · intro k hk
      rcases h3 with h3 | h3
      · exact ho3 k (h3 ▸ hk)
      · rw [h3] at hk; simp at hk; subst hk
        intro hk; have := hT _ hk; omega
    · intro k x cs hx hc
      have hkeep : Keep T w w' := Keep.of_grown h2 (fun k hk => ho3 k hk)
      by_cases hk : k < xs.length
      · rw [List.getElem?_append_left hk] at hx
        rw [List.getElem?_append_left (by omega)] at hc
        exact ⟨(ho4 k x cs hx hc).1, hR.keep (ho4 k x cs hx hc).2 hkeep⟩
      · rw [List.getElem?_append_right (by omega)] at hx
        rw [List.getElem?_append_right (by omega), ho2] at hc
        exact ⟨(hd2 cs (List.mem_of_getElem? hc)).1, hR.keep (hd3 _ x cs hx hc) hkeep⟩
  rcases A with _ | ad
  · have hy : ys.length = 0 := by
      rcases Nat.eq_zero_or_pos ys.length with h | h
      · exact h
      · have hp : 0 < ds.flatten.length := by rw [hlen]; exact Nat.mul_pos h h0
        obtain ⟨ad, h, _⟩ := hd4 0 _ (List.getElem?_eq_getElem hp)
        cases h
    have hy' : ys = [] := List.eq_nil_of_length_eq_zero hy
    subst hy'
    have hr : (Builtin.append_ #[t, t] ty #[v, .slice none 0 c]).run P w = .ok v w := by
      rcases ho1.2 with ⟨rfl, hx0⟩ | ⟨g, cap, cur, rfl, _, _, hnc, _⟩
      · simp [Builtin.append_, run_underlying ht, sizeOf, typeInfo, hi1, Builtin.lenOf, Builtin.firstCells]
      · simp [Builtin.append_, run_underlying ht, sizeOf, typeInfo, hi1, Builtin.lenOf, Builtin.firstCells, hnc, storeCells]
    have hds : ds = [] := List.eq_nil_of_length_eq_zero (by simpa using hd1)
    subst hds
    exact ⟨v, w, by simpa using hr, by simpa using fin v w (by simpa using ho1) (World.grownBy.refl w _) (.inl rfl), World.grownBy.refl w _, .inl rfl⟩
  · obtain ⟨v', w', hrun, h2, h3, _, h5⟩ := run_append_own_at (P := P) w base t ty e i z sz by_ ht hi1 hz hs hbb hzs h0 v xs.length css.flatten ho1 ad ys.length c ds.flatten hlen
      (fun j u hu => by obtain ⟨ad', h, hc⟩ := hd4 j u hu; cases h; exact hc) hone hle hb hbase
    exact ⟨v', w', hrun, fin v' w' h2 h3 h5, h3, h5⟩

theorem wl_append {ops : Array Oper} {rest : List Oper} {o : Oper} {a : Act} {Q : Exit → Act → World → Prop} (w : World) (hgd : o.guard = none) (s x : Operand) {t e sz by_ base : Nat} {v : Value} {xs ys : List α} {A : Option Addr} {c : Nat}
    (ho : o.op = .call { callee := .builtin .append, args := #[s, x], argTypes := #[t, t] }) (hi : SlInfo P t e sz by_) (hR : Fair R) (hs : a.eval s = v) (hx : a.eval x = .slice A ys.length c)
    (hown : Own base e sz R T w v xs) (hsrc : Src sz R T w A ys) (hT : ∀ g, T g → g < w.heap.size) (hb : (xs.length + ys.length) * by_ ≤ 140737488355328) (hbase : base ≤ w.heap.size)
    (h : ∀ v' w', Own base e sz R T w' v' (xs ++ ys) → w.grownBy w' v.ownBlock → (v'.ownBlock = v.ownBlock ∨ v'.ownBlock = some w.heap.size) → wpList P ops Q rest (a.put o.dst v') w') : wpList P ops Q (o :: rest) a w :=
  wpList_plain hgd fun _ hK => by
    obtain ⟨v', w', hrun, h2, h3, h4⟩ := run_append_src (P := P) w (ty := o.type) (c := c) hi hR hown hsrc hT hb hbase
    unfold Oper.wp execOp
    simp only [ho, resolve, invoke, builtin, Sem.run_bind, Sem.run_pure, Result.andThen_ok, List.map_toArray, List.map_cons, List.map_nil, hs, hx, hrun]
    exact hK _ _ (h v' w' h2 h3 h4)

/-- An owned row, no longer written, reads as a slice. -/
theorem Own.read {base e sz by_ : Nat} {v : Value} {xs : List α} {S : Nat → Prop} (hR : Fair R) (h : Own base e sz R T w v xs) (hT : ∀ g, T g → g < w.heap.size → S g) (hv : ∀ k, v.ownBlock = some k → S k)
    (hcap : xs.length * by_ ≤ 140737488351232) : RSl sz by_ R S w [v] xs := by
  obtain ⟨css, h1, h2, h3, h4⟩ := h
  rcases h1.2 with ⟨rfl, hn⟩ | ⟨g, cap, cur, rfl, hb, hg, hnc, hcm, hcs, htk⟩
  · have : xs = [] := List.eq_nil_of_length_eq_zero hn
    subst this; exact RSl.nil_
  · refine ⟨_, cap, rfl, hnc, hcap, fun k x hx => ?_⟩
    have hk : k < xs.length := by
      rcases Nat.lt_or_ge k xs.length with h | h
      · exact h
      · rw [List.getElem?_eq_none h] at hx; cases hx
    have hc : css[k]? = some (css[k]'(by omega)) := List.getElem?_eq_getElem (by omega)
    obtain ⟨hl, hr⟩ := h4 k x _ hx hc
    refine ⟨g, 0, _, rfl, hv g rfl, (Array.getElem?_eq_some_iff.1 hg).1, hl, hR.mono hr hT, fun j hj => ?_⟩
    have hall : ∀ x ∈ css, x.length = sz := by
      intro c hc
      obtain ⟨i, hi, rfl⟩ := List.getElem_of_mem hc
      exact (h4 i (xs[i]'(by omega)) _ (List.getElem?_eq_getElem (by omega)) (List.getElem?_eq_getElem hi)).1
    have hfl := flatten_get css sz k j _ hall hc (by omega)
    have hv' : (css[k]'(by omega))[j]? = some ((css[k]'(by omega))[j]) := List.getElem?_eq_getElem hj
    rw [hv'] at hfl
    have := h1.cells (g := g) rfl (k * sz + j) _ hfl
    have hadd : (⟨g, 0, none⟩ : Addr).add (k * sz + j) = ⟨g, 0 + k * sz + j, none⟩ := by unfold Addr.add; split <;> simp_all
    rw [hadd] at this
    rw [this, hv']
end

def NoT : Nat → Prop := fun _ => False
theorem NoT.lt (w : World) : ∀ g, NoT g → g < w.heap.size := fun _ h => h.elim

/-- A call that returns v, and leaves what was there as it was. -/
def Ret (w : World) (v : Value) (e : Ending) (w' : World) : Prop := e = .returned v ∧ Below w.heap.size w w'

/-- Block g is the cells cs, of type t, none frozen. -/
def Box (w : World) (g : Nat) (t : TypeId) (cs : List Value) : Prop := w.heap[g]? = some (.cells cs.toArray t (0, 0))
section
variable {w w' : World} {g : Nat} {t : TypeId} {cs : List Value}
theorem Box.lt (h : Box w g t cs) : g < w.heap.size := (Array.getElem?_eq_some_iff.1 h).1
theorem Box.cell (h : Box w g t cs) (i : Nat) : w.cell? ⟨g, i, none⟩ = cs[i]? := by rw [cell_of_row w g i cs.toArray t (0, 0) h]; simp
theorem Box.frozen (h : Box w g t cs) (i : Nat) : w.frozen? ⟨g, i, none⟩ = false := by unfold Box at h; simp [World.frozen?, h]
theorem Box.new (w : World) (t : TypeId) (cs : List Value) : Box (w.alloc (.cells cs.toArray t)) w.heap.size t cs := heap_alloc_new w _
theorem Box.keep {S : Nat → Prop} (h : Box w g t cs) (hk : Keep S w w') (hs : S g) : Box w' g t cs := (hk.2 g hs h.lt).trans h
theorem Box.below {B : Nat} (h : Box w g t cs) (hb : Below B w w') (hg : g < B) : Box w' g t cs := (hb.block g hg).trans h
theorem Box.grown {row : Option Nat} (h : Box w g t cs) (hb : w.grownBy w' row) (hg : row ≠ some g) : Box w' g t cs := (hb.block g h.lt (fun e => hg e.symm)).trans h
theorem Box.alloc (h : Box w g t cs) (o : Obj) : Box (w.alloc o) g t cs := (Below.heap_alloc w o g h.lt).trans h
theorem Box.set_ (h : Box w g t cs) (i : Nat) (u : Value) : Box (w.setCell ⟨g, i, none⟩ u) g t (cs.set i u) := by
  unfold Box at h ⊢
  simp [World.setCell, Array.getElem?_modify, h]
theorem Box.far (h : Box w g t cs) {p : Addr} (hp : g ≠ p.block) (u : Value) : Box (w.setCell p u) g t cs := (Below.heap_setCell w p u g hp).trans h
theorem Box.drew (h : Box w g t cs) : Box w.drew g t cs := h
theorem Box.drewN (h : Box w g t cs) (n : Nat) : Box (w.drewN n) g t cs := h
/-- A row of another type lies elsewhere. -/
theorem Box.ne_own {α : Type} {R : Rel α} {base e sz : Nat} {T : Nat → Prop} {v : Value} {xs : List α} (h : Box w g t cs) (ho : Own base e sz R T w v xs) (hne : e ≠ t) : v.ownBlock ≠ some g := by
  obtain ⟨css, h1, _⟩ := ho
  rcases h1.2 with ⟨rfl, _⟩ | ⟨g', cap, cur, rfl, _, hh, _⟩
  · simp [Value.ownBlock]
  · intro he
    have : g' = g := by simpa [Value.ownBlock] using he
    subst this
    unfold Box at h
    rw [hh] at h
    injection h with h
    injection h with _ ht
    exact hne ht
end
theorem below_grown {B : Nat} {a b c : World} {row : Option Nat} (h : Below B a b) (k : b.grownBy c row) (hB : B ≤ b.heap.size) (hr : ∀ g, row = some g → B ≤ g) : Below B a c := h.grown k hB hr
theorem below_via {B : Nat} {a b c : World} (h : Below B a b) (k : Below b.heap.size b c) (hB : B ≤ b.heap.size) : Below B a c := h.trans (k.mono hB)
theorem Own.below {α : Type} {R : Rel α} {base e sz : Nat} {T : Nat → Prop} {w w' : World} {v : Value} {xs : List α} (hR : Fair R) (h : Own base e sz R T w v xs) (hb : Below w.heap.size w w') : Own base e sz R T w' v xs :=
  h.kept hR (row := none) (grown_below hb none) (by cases hv : v.ownBlock <;> simp) (by simp)
theorem Own.form {α : Type} {R : Rel α} {base e sz : Nat} {T : Nat → Prop} {w : World} {v : Value} {xs : List α} (h : Own base e sz R T w v xs) : ∃ A cap, v = .slice A xs.length cap ∧ xs.length ≤ cap := by
  obtain ⟨css, h1, _⟩ := h
  rcases h1.2 with ⟨rfl, h0⟩ | ⟨g, cap, cur, rfl, _, _, hc, _⟩
  · exact ⟨none, 0, by rw [h0], by omega⟩
  · exact ⟨_, cap, rfl, hc⟩
theorem Own.drew {α : Type} {R : Rel α} {base e sz : Nat} {T : Nat → Prop} {w : World} {v : Value} {xs : List α} (hR : Fair R) (h : Own base e sz R T w v xs) : Own base e sz R T w.drew v xs :=
  h.kept hR (row := none) ⟨rfl, rfl, rfl, Nat.le_refl _, fun _ _ _ => rfl⟩ (by cases hv : v.ownBlock <;> simp) (by simp)
theorem below_drew {B : Nat} {a w : World} (h : Below B a w) : Below B a w.drew := h.drew
theorem below_drewN {B : Nat} {a w : World} (h : Below B a w) (n : Nat) : Below B a (w.drewN n) := ⟨h.os, h.tape, h.output, h.size, h.block⟩
section
variable {α : Type} {P : Program} {R : Rel α} {T : Nat → Prop}
theorem wp_append {o : Oper} {a : Act} {K : Act → World → Prop} {Q : Exit → Act → World → Prop} (w : World) (s x : Operand) {t e sz by_ base : Nat} {v : Value} {xs ys : List α} {A : Option Addr} {c : Nat}
    (ho : o.op = .call { callee := .builtin .append, args := #[s, x], argTypes := #[t, t] }) (hi : SlInfo P t e sz by_) (hR : Fair R) (hs : a.eval s = v) (hx : a.eval x = .slice A ys.length c)
    (hown : Own base e sz R T w v xs) (hsrc : Src sz R T w A ys) (hT : ∀ g, T g → g < w.heap.size) (hb : (xs.length + ys.length) * by_ ≤ 140737488355328) (hbase : base ≤ w.heap.size)
    (h : ∀ v' w', Own base e sz R T w' v' (xs ++ ys) → w.grownBy w' v.ownBlock → (v'.ownBlock = v.ownBlock ∨ v'.ownBlock = some w.heap.size) → K (a.put o.dst v') w') : o.wp P a w K Q := by
  obtain ⟨v', w', hrun, h2, h3, h4⟩ := run_append_src (P := P) w (ty := o.type) (c := c) hi hR hown hsrc hT hb hbase
  unfold Oper.wp execOp
  simp only [ho, resolve, invoke, builtin, Sem.run_bind, Sem.run_pure, Result.andThen_ok, List.map_toArray, List.map_cons, List.map_nil, hs, hx, hrun]
  exact h v' w' h2 h3 h4
/-- The same, in a region that draws. -/
theorem step_append {ops : Array Oper} {o : Oper} {a : Act} {K : Act → World → Prop} {Q : Exit → Act → World → Prop} {E : Prop} (w : World) (hgd : o.guard = none) (s x : Operand) {t e sz by_ base : Nat} {v : Value} {xs ys : List α} {A : Option Addr} {c : Nat}
    (ho : o.op = .call { callee := .builtin .append, args := #[s, x], argTypes := #[t, t] }) (hi : SlInfo P t e sz by_) (hR : Fair R) (hs : a.eval s = v) (hx : a.eval x = .slice A ys.length c)
    (hown : Own base e sz R T w v xs) (hsrc : Src sz R T w A ys) (hT : ∀ g, T g → g < w.heap.size) (hb : (xs.length + ys.length) * by_ ≤ 140737488355328) (hbase : base ≤ w.heap.size)
    (h : ∀ v' w', Own base e sz R T w' v' (xs ++ ys) → w.grownBy w' v.ownBlock → (v'.ownBlock = v.ownBlock ∨ v'.ownBlock = some w.heap.size) → K (a.put o.dst v') w') :
    if Region.wanted o (yielded ops a.tmps) = true then Oper.wp P o a w K Q else E := by
  rw [if_pos (show Region.wanted o (yielded ops a.tmps) = true by simp [Region.wanted, hgd])]
  exact wp_append w s x ho hi hR hs hx hown hsrc hT hb hbase h
end
/-- A block that holds the cells of lists, one behind the other, read as a slice. -/
theorem RSl.of_box {α : Type} {sz by_ : Nat} {R : Rel α} {S : Nat → Prop} {w : World} {g e cap : Nat} {css : List (List Value)} {xs : List α} (h : Box w g e css.flatten) (hl : css.length = xs.length) (hs : S g) (hc : xs.length ≤ cap) (hb : xs.length * by_ ≤ 140737488351232)
    (hr : ∀ (k : Nat) (x : α) (cs : List Value), xs[k]? = some x → css[k]? = some cs → cs.length = sz ∧ R S w cs x) : RSl sz by_ R S w [.slice (some ⟨g, 0, none⟩) xs.length cap] xs := by
  refine ⟨_, cap, rfl, hc, hb, fun k x hx => ?_⟩
  have hk : k < xs.length := by
    rcases Nat.lt_or_ge k xs.length with h | h
    · exact h
    · rw [List.getElem?_eq_none h] at hx; cases hx
  have hcs : css[k]? = some (css[k]'(by omega)) := List.getElem?_eq_getElem (by omega)
  obtain ⟨h1, h2⟩ := hr k x _ hx hcs
  have hall : ∀ x ∈ css, x.length = sz := by
    intro c hc
    obtain ⟨i, hi, rfl⟩ := List.getElem_of_mem hc
    exact (hr i (xs[i]'(by omega)) _ (List.getElem?_eq_getElem (by omega)) (List.getElem?_eq_getElem hi)).1
  refine ⟨g, 0, _, rfl, hs, h.lt, h1, h2, fun j hj => ?_⟩
  have hfl := flatten_get css sz k j _ hall hcs (by omega)
  rw [show (0 + k * sz + j) = k * sz + j from by omega, h.cell, hfl]
/-- Flat elements. -/
theorem RSl.of_box_flat {α : Type} {sz by_ : Nat} {enc : α → List Value} {S : Nat → Prop} {w : World} {g e cap : Nat} {xs : List α} (h : Box w g e (xs.map enc).flatten) (hs : S g) (hc : xs.length ≤ cap) (hb : xs.length * by_ ≤ 140737488351232)
    (hr : ∀ x ∈ xs, (enc x).length = sz) : RSl sz by_ (RFlat enc) S w [.slice (some ⟨g, 0, none⟩) xs.length cap] xs :=
  RSl.of_box (css := xs.map enc) h (by simp) hs hc hb (fun k x cs hx hcs => by
    simp [List.getElem?_map, hx] at hcs
    subst hcs
    exact ⟨hr x (List.mem_of_getElem? hx), rfl⟩)
/-- What is there. -/
def Old (w : World) : Nat → Prop := fun g => g < w.heap.size
theorem Fair.old {α : Type} {R : Rel α} (hR : Fair R) {S : Nat → Prop} {w : World} {cs : List Value} {x : α} (h : R S w cs x) : R (Old w) w cs x := hR.mono h fun _ _ hg => hg
theorem Fair.below {α : Type} {R : Rel α} (hR : Fair R) {S : Nat → Prop} {w w' : World} {cs : List Value} {x : α} (h : R S w cs x) (hb : Below w.heap.size w w') : R S w' cs x := hR.keep h (Keep.of_below hb)
theorem Own.setCell {α : Type} {R : Rel α} {base e sz : Nat} {T : Nat → Prop} {w : World} {v : Value} {xs : List α} (hR : Fair R) (h : Own base e sz R T w v xs) {p : Addr} (u : Value) (hv : v.ownBlock ≠ some p.block) (hT : ¬ T p.block) : Own base e sz R T (w.setCell p u) v xs :=
  h.kept hR (row := some p.block) (grown_setCell (World.grownBy.refl _ _) (.inl rfl) u) (.inr hv) (by rintro k hk; cases hk; exact hT)
/-- The length of the string in a block's first cell. -/
def strLen (w : World) (g : Nat) : Nat := match w.cell? ⟨g, 0, none⟩ with | some (.string s) => s.size | _ => 0
theorem strLen_of {w : World} {g : Nat} {s : ByteArray} (h : w.cell? ⟨g, 0, none⟩ = some (.string s)) : strLen w g = s.size := by unfold strLen; rw [h]
end Go.Proofs.YtaadnlopifaagaaDoor
