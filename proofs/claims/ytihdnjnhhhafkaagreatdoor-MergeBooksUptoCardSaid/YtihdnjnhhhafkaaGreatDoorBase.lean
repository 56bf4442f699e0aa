/- Several texts of walks and laws in one file; what each proves stands at its head. -/
import Derived.WalkKit
import Derived.WalkSpells
import Derived.WalkLawsBesides
import Derived.Deep.QuietTactic
import Derived.BigQuiet
import Derived.Lib.Hide
import Derived.Maps.AppendAt
import Derived.Deep.AppendLies
import Derived.Lib.AppendStr
import Derived.Lib.ItoaNum
import Derived.Lib.AtoiTie
set_option linter.all false
namespace Go.Proofs.YtihdnjnhhhafkaaGreatDoor
open Go.RowKit
def Keep (S : Nat → Prop) (w w' : World) : Prop := w.heap.size ≤ w'.heap.size ∧ ∀ g, S g → g < w.heap.size → w'.heap[g]? = w.heap[g]?
theorem Keep.refl (S : Nat → Prop) (w : World) : Keep S w w := ⟨Nat.le_refl _, fun _ _ _ => rfl⟩
theorem Keep.trans {S : Nat → Prop} {a b c : World} (h : Keep S a b) (k : Keep S b c) : Keep S a c :=
 ⟨Nat.le_trans h.1 k.1, fun g hs hg => (k.2 g hs (Nat.lt_of_lt_of_le hg h.1)).trans (h.2 g hs hg)⟩
theorem Keep.of_below {S : Nat → Prop} {w w' : World} (h : Below w.heap.size w w') : Keep S w w' := ⟨h.size, fun g _ hg => h.block g hg⟩
theorem Keep.of_grown {S : Nat → Prop} {w w' : World} {row : Option Nat} (h : w.grownBy w' row) (hr : ∀ k, row = some k → ¬ S k) : Keep S w w' :=
 ⟨h.size, fun g hs hg => h.block g hg (fun e => hr g e.symm hs)⟩
theorem Keep.alloc (S : Nat → Prop) (w : World) (o : Obj) : Keep S w (w.alloc o) := ⟨by simp, fun g _ hg => Below.heap_alloc w o g hg⟩
theorem Keep.setCell {S : Nat → Prop} (w : World) {a : Addr} (u : Value) (ha : ¬ S a.block) : Keep S w (w.setCell a u) :=
 ⟨by simp [World.setCell], fun g hs _ => Below.heap_setCell w a u g (fun e => ha (e ▸ hs))⟩
theorem Keep.drew (S : Nat → Prop) (w : World) : Keep S w w.drew := ⟨Nat.le_refl _, fun _ _ _ => rfl⟩
theorem Keep.drewN (S : Nat → Prop) (w : World) (n : Nat) : Keep S w (w.drewN n) := ⟨Nat.le_refl _, fun _ _ _ => rfl⟩
theorem Keep.mono {S T : Nat → Prop} {w w' : World} (h : Keep S w w') (hs : ∀ g, T g → S g) : Keep T w w' := ⟨h.1, fun g hg => h.2 g (hs g hg)⟩
def Lies (w : World) (g o : Nat) (cs : List Value) : Prop := ∀ j, j < cs.length → w.cell? ⟨g, o + j, none⟩ = cs[j]?
theorem Lies.keep {S : Nat → Prop} {w w' : World} {g o : Nat} {cs : List Value} (h : Lies w g o cs) (hk : Keep S w w') (hg : S g) : Lies w' g o cs := fun j hj => by
 have h1 := h j hj
 rw [List.getElem?_eq_getElem hj] at h1
 have hlt := World.block_lt_of_cell? w _ h1
 rw [World.cell?_of_block (w := w) (hk.2 g hg hlt), List.getElem?_eq_getElem hj]
 exact h1
theorem Lies.at_ {w : World} {g o : Nat} {cs : List Value} (h : Lies w g o cs) (j : Nat) {u : Value} (hj : cs[j]? = some u) : w.cell? ⟨g, o + j, none⟩ = some u := by
 have hl : j < cs.length := by
  rcases Nat.lt_or_ge j cs.length with h | h
  ·exact h
  ·rw [List.getElem?_eq_none h] at hj; cases hj
 rw [h j hl, hj]
abbrev Rel (α : Type) := (Nat → Prop) → World → List Value → α → Prop
structure Fair {α : Type} (R : Rel α) : Prop where
 keep : ∀ {S w w' cs x}, R S w cs x → Keep S w w' → R S w' cs x
 mono : ∀ {S T w cs x}, R S w cs x → (∀ g, S g → g < w.heap.size → T g) → R T w cs x
def RSl {α : Type} (sz by_ : Nat) (R : Rel α) : Rel (List α) := fun S w cs xs =>
 ∃ A cap, cs = [.slice A xs.length cap] ∧ xs.length ≤ cap ∧ xs.length * by_ ≤ 140737488351232 ∧
  ∀ k x, xs[k]? = some x → ∃ g o es, A = some ⟨g, o, none⟩ ∧ S g ∧ g < w.heap.size ∧ es.length = sz ∧ R S w es x ∧ Lies w g (o + k * sz) es
theorem RSl.fair {α : Type} {sz by_ : Nat} {R : Rel α} (hR : Fair R) : Fair (RSl sz by_ R) := ⟨by
  rintro S w w' cs xs ⟨A, cap, h1, h2, h3, h4⟩ hk
  refine ⟨A, cap, h1, h2, h3, fun k x hx => ?_⟩
  obtain ⟨g, o, es, ha, hs, hg, hl, hr, hc⟩ := h4 k x hx
  exact ⟨g, o, es, ha, hs, Nat.lt_of_lt_of_le hg hk.1, hl, hR.keep hr hk, hc.keep hk hs⟩, by
  rintro S T w cs xs ⟨A, cap, h1, h2, h3, h4⟩ hm
  refine ⟨A, cap, h1, h2, h3, fun k x hx => ?_⟩
  obtain ⟨g, o, es, ha, hs, hg, hl, hr, hc⟩ := h4 k x hx
  exact ⟨g, o, es, ha, hm g hs hg, hg, hl, hR.mono hr hm, hc⟩⟩
def RFlat {α : Type} (enc : α → List Value) : Rel α := fun _ _ cs x => cs = enc x
theorem RFlat.fair {α : Type} (enc : α → List Value) : Fair (RFlat enc) := ⟨fun h _ => h, fun h _ => h⟩
def RInt : Rel Int := RFlat fun x => [.int .i64 x]
theorem RInt.fair : Fair RInt := RFlat.fair _
def RStr : Rel ByteArray := RFlat fun x => [.string x]
theorem RStr.fair : Fair RStr := RFlat.fair _
section
variable {α : Type} {sz by_ : Nat} {R : Rel α} {S : Nat → Prop} {w : World} {v : Value} {xs : List α}
theorem RSl.form (h : RSl sz by_ R S w [v] xs) : ∃ A cap, v = .slice A xs.length cap ∧ xs.length ≤ cap ∧ xs.length * by_ ≤ 140737488351232 := by
 obtain ⟨A, cap, h1, h2, h3, _⟩ := h
 exact ⟨A, cap, by simpa using h1, h2, h3⟩
theorem RSl.at_ {A : Option Addr} {n cap k : Nat} (h : RSl sz by_ R S w [.slice A n cap] xs) (hk : k < xs.length) :
  ∃ g o es, A = some ⟨g, o, none⟩ ∧ S g ∧ g < w.heap.size ∧ es.length = sz ∧ R S w es xs[k] ∧ Lies w g (o + k * sz) es := by
 obtain ⟨A', cap', h1, _, _, h4⟩ := h
 obtain ⟨rfl, _, _⟩ : A = A' ∧ n = xs.length ∧ cap = cap' := by simpa using h1
 exact h4 k _ (List.getElem?_eq_getElem hk)
theorem RSl.len {A : Option Addr} {n cap : Nat} (h : RSl sz by_ R S w [.slice A n cap] xs) : n = xs.length := by
 obtain ⟨A', cap', h1, _⟩ := h
 simp at h1; exact h1.2.1
theorem RSl.nil_ : RSl sz by_ R S w [.slice none 0 0] ([] : List α) := ⟨none, 0, by simp, by simp, by simp, fun k x hx => by simp at hx⟩
end
def Own {α : Type} (base e sz : Nat) (R : Rel α) (T : Nat → Prop) (w : World) (v : Value) (xs : List α) : Prop :=
 ∃ css : List (List Value), w.ownsRow base e sz v xs.length css.flatten ∧ css.length = xs.length ∧ (∀ k, v.ownBlock = some k → ¬ T k) ∧
  ∀ (k : Nat) (x : α) (cs : List Value), xs[k]? = some x → css[k]? = some cs → cs.length = sz ∧ R T w cs x
section
variable {α : Type} {base e sz by_ : Nat} {R : Rel α} {T : Nat → Prop} {w w' : World} {v : Value} {xs : List α}
theorem Own.nil_ (base e sz : Nat) (R : Rel α) (T : Nat → Prop) (w : World) : Own base e sz R T w (.slice none 0 0) ([] : List α) :=
 ⟨[], World.ownsRow_nil _ _ _ _, rfl, fun k hk => by simp [Value.ownBlock] at hk, fun k x cs hx => by simp at hx⟩
theorem Own.lt (h : Own base e sz R T w v xs) {k : Nat} (hk : v.ownBlock = some k) : base ≤ k ∧ k < w.heap.size := by
 obtain ⟨css, h1, _⟩ := h; exact h1.lt k hk
theorem Own.kept (hR : Fair R) (h : Own base e sz R T w v xs) {row : Option Nat} (hg : w.grownBy w' row) (hne : v.ownBlock = none ∨ v.ownBlock ≠ row) (hT : ∀ k, row = some k → ¬ T k) : Own base e sz R T w' v xs := by
 obtain ⟨css, h1, h2, h3, h4⟩ := h
 exact ⟨css, h1.kept hg hne, h2, h3, fun k x cs hx hc => ⟨(h4 k x cs hx hc).1, hR.keep (h4 k x cs hx hc).2 (Keep.of_grown hg hT)⟩⟩
theorem Own.alloc (hR : Fair R) (h : Own base e sz R T w v xs) (o : Obj) : Own base e sz R T (w.alloc o) v xs :=
 h.kept hR (World.grownBy_alloc w o none) (by cases hv : v.ownBlock <;> simp) (by simp)
theorem Own.mono (hR : Fair R) (h : Own base e sz R T w v xs) {T' : Nat → Prop} (hT : ∀ g, T g → g < w.heap.size → T' g) (hv : ∀ k, v.ownBlock = some k → ¬ T' k) : Own base e sz R T' w v xs := by
 obtain ⟨css, h1, h2, h3, h4⟩ := h
 exact ⟨css, h1, h2, hv, fun k x cs hx hc => ⟨(h4 k x cs hx hc).1, hR.mono (h4 k x cs hx hc).2 hT⟩⟩
end
def Newer (w : World) (row : Option Nat) (v : Value) : Prop := v.ownBlock = row ∨ ∀ k, v.ownBlock = some k → w.heap.size ≤ k
theorem grown_via {a b c : World} {row row2 : Option Nat} (h : a.grownBy b row) (k : b.grownBy c row2) (hr : row2 = row ∨ ∀ k, row2 = some k → a.heap.size ≤ k) : a.grownBy c row :=
 ⟨k.os.trans h.os, k.tape.trans h.tape, k.output.trans h.output, Nat.le_trans h.size k.size, fun i hi hne => by
  refine (k.block i (Nat.lt_of_lt_of_le hi h.size) (fun e => ?_)).trans (h.block i hi hne)
  rcases hr with hr | hr
  ·exact hne (e.trans hr)
  ·have := hr i e.symm; omega⟩
theorem grown_alloc {a b : World} {row : Option Nat} (h : a.grownBy b row) (o : Obj) : a.grownBy (b.alloc o) row :=
 grown_via h (World.grownBy_alloc b o row) (.inl rfl)
theorem grown_below {a b : World} (h : Below a.heap.size a b) (row : Option Nat) : a.grownBy b row := ⟨h.os, h.tape, h.output, h.size, fun i hi _ => h.block i hi⟩
theorem grown_setCell {a b : World} {row : Option Nat} (h : a.grownBy b row) {p : Addr} (hp : some p.block = row ∨ a.heap.size ≤ p.block) (u : Value) : a.grownBy (b.setCell p u) row :=
 ⟨h.os, h.tape, h.output, by simpa [World.setCell] using h.size, fun i hi hne => (Below.heap_setCell b p u i (by
  rintro rfl
  rcases hp with hp | hp
  ·exact hne hp
  ·omega)).trans (h.block i hi hne)⟩
theorem grown_drew {a b : World} {row : Option Nat} (h : a.grownBy b row) : a.grownBy b.drew row := ⟨h.os, h.tape, h.output, h.size, h.block⟩
theorem Newer.step {a b : World} {row : Option Nat} {v v' : Value} {n : Nat} (h : Newer a row v) (h' : v'.ownBlock = v.ownBlock ∨ v'.ownBlock = some n) (hs : a.heap.size ≤ b.heap.size) (hn : b.heap.size ≤ n) : Newer a row v' := by
 rcases h' with h' | h'
 ·unfold Newer; rw [h']; exact h
 ·right; intro k hk; rw [h'] at hk; cases hk; omega
theorem Newer.trans {a b : World} {v v' : Value} {row : Option Nat} (h : Newer a row v) (h' : Newer b v.ownBlock v') (hs : a.heap.size ≤ b.heap.size) : Newer a row v' := by
 rcases h' with h' | h'
 ·unfold Newer; rw [h']; exact h
 ·right; intro k hk; have := h' k hk; omega
def SlInfo (P : Program) (t e sz by_ : Nat) : Prop :=
 P.underlying t = some (.slice e) ∧ 0 < sz ∧ 0 < by_ ∧ ∃ i z, P.info? e = some i ∧ i.zero = some z ∧ i.size = sz ∧ i.bytes = by_ ∧ z.cells.size = sz
theorem SlInfo.mk {P : Program} {t e sz by_ : Nat} {z : Value} (h1 : P.underlying t = some (.slice e)) (h2 : 0 < sz) (h3 : 0 < by_)
  (h4 : (P.info? e).map (fun i => (i.zero, i.size, i.bytes)) = some (some z, sz, by_)) (h5 : z.cells.size = sz) : SlInfo P t e sz by_ := by
 obtain ⟨i, hi, hz, hs, hb⟩ := info_parts h4
 exact ⟨h1, h2, h3, i, z, hi, hz, hs, hb, h5⟩
theorem flatten_get {α : Type} : ∀ (l : List (List α)) (n k j : Nat) (c : List α), (∀ x ∈ l, x.length = n) → l[k]? = some c → j < n → l.flatten[k * n + j]? = c[j]?
 | [], n, k, j, c, _, h, _ => by simp at h
 | x :: l, n, 0, j, c, hn, h, hj => by
  simp at h; subst h
  rw [List.flatten_cons, Nat.zero_mul, Nat.zero_add, List.getElem?_append_left (by rw [hn x (by simp)]; exact hj)]
 | x :: l, n, k + 1, j, c, hn, h, hj => by
  have hx := hn x (by simp)
  rw [List.flatten_cons, List.getElem?_append_right (by rw [hx, Nat.add_mul]; omega), hx]
  have := flatten_get l n k j c (fun y hy => hn y (by simp [hy])) (by simpa using h) hj
  rw [← this]; congr 1; rw [Nat.add_mul]; omega
theorem flatten_len {α : Type} (n : Nat) : ∀ (l : List (List α)), (∀ x ∈ l, x.length = n) → l.flatten.length = l.length * n
 | [], _ => by simp
 | x :: l, h => by rw [List.flatten_cons, List.length_append, h x (by simp), flatten_len n l (fun y hy => h y (by simp [hy])), List.length_cons, Nat.add_mul]; omega
def Ones (cs : List Value) : Prop := ∀ u ∈ cs, u.oneCell' = true
section
variable {α : Type} {P : Program} {w : World} {R : Rel α} {T : Nat → Prop}
def Src (sz : Nat) (R : Rel α) (T : Nat → Prop) (w : World) (A : Option Addr) (ys : List α) : Prop :=
 ∃ css : List (List Value), css.length = ys.length ∧ (∀ x ∈ css, x.length = sz ∧ Ones x) ∧
  (∀ (k : Nat) (y : α) (cs : List Value), ys[k]? = some y → css[k]? = some cs → R T w cs y) ∧
  (∀ j u, css.flatten[j]? = some u → ∃ ad, A = some ad ∧ w.cell? (ad.add j) = some u)
theorem Src.nil_ (sz : Nat) (R : Rel α) (T : Nat → Prop) (w : World) (A : Option Addr) : Src sz R T w A ([] : List α) :=
 ⟨[], rfl, by simp, fun k y cs h => by simp at h, fun j u h => by simp at h⟩
theorem Src.one {sz g : Nat} {es : List Value} {y : α} (hl : es.length = sz) (h1 : Ones es) (hr : R T w es y) (hc : Lies w g 0 es) : Src sz R T w (some ⟨g, 0, none⟩) [y] := by
 refine ⟨[es], rfl, ?_, ?_, ?_⟩
 ·simpa using ⟨hl, h1⟩
 ·intro k y' cs hy hcs
  cases k with
  | zero => simp at hy hcs; subst hy; subst hcs; exact hr
  | succ k => simp at hy
 ·intro j u hj
  simp at hj
  refine ⟨_, rfl, ?_⟩
  have := hc.at_ j hj
  have hadd : (⟨g, 0, none⟩ : Addr).add j = ⟨g, 0 + j, none⟩ := by unfold Addr.add; split <;> simp_all
  rw [hadd]; exact this
theorem Lies.new (w : World) (cs : List Value) (e : TypeId) : Lies (w.alloc (.cells cs.toArray e)) w.heap.size 0 cs := by
 intro j hj
 rw [Nat.zero_add, cell_of_row (w.alloc (.cells cs.toArray e)) w.heap.size j cs.toArray e (0, 0) (heap_alloc_new w _)]
 simp
theorem Ones.of_all {cs : List Value} (h : cs.all (fun u => u.oneCell') = true) : Ones cs := fun u hu => by
 simpa using List.all_eq_true.1 h u hu
def OneCells (R : Rel α) : Prop := ∀ {S w cs x}, R S w cs x → Ones cs
theorem RSl.src {sz by_ cap n : Nat} {A : Option Addr} {xs : List α} (h0 : 0 < sz) (ho : OneCells R) (h : RSl sz by_ R T w [.slice A n cap] xs) : Src sz R T w A xs := by
 by_cases hx : xs.length = 0
 ·have : xs = [] := List.eq_nil_of_length_eq_zero hx
  subst this; exact Src.nil_ _ _ _ _ _
 obtain ⟨g, o, _, hA, _⟩ := h.at_ (k := 0) (by omega)
 subst hA
 have hk : ∀ k, k < xs.length → ∃ es : List Value, es.length = sz ∧ (∀ x, xs[k]? = some x → R T w es x) ∧ Lies w g (o + k * sz) es := by
  intro k hk
  obtain ⟨g', o', es, ha, _, _, hl, hr, hc⟩ := h.at_ hk
  simp at ha
  obtain ⟨rfl, rfl⟩ := ha
  exact ⟨es, hl, fun x hx => by rw [List.getElem?_eq_getElem hk] at hx; cases hx; exact hr, hc⟩
 let f : Nat → List Value := fun k => if hk' : k < xs.length then (hk k hk').choose else []
 have hf : ∀ k (hk' : k < xs.length), f k = (hk k hk').choose := fun k hk' => by simp only [f]; rw [dif_pos hk']
 refine ⟨(List.range xs.length).map f, by simp, ?_, ?_, ?_⟩
 ·intro x hx
  simp only [List.mem_map, List.mem_range] at hx
  obtain ⟨k, hk', rfl⟩ := hx
  rw [hf k hk']
  exact ⟨(hk k hk').choose_spec.1, ho ((hk k hk').choose_spec.2.1 _ (List.getElem?_eq_getElem hk'))⟩
 ·intro k y cs hy hcs
  have hk' : k < xs.length := by
   rcases Nat.lt_or_ge k xs.length with h | h
   ·exact h
   ·rw [List.getElem?_eq_none h] at hy; cases hy
  simp [List.getElem?_range hk'] at hcs
  subst hcs
  rw [hf k hk']
  exact (hk k hk').choose_spec.2.1 y hy
 ·intro j u hj
  refine ⟨_, rfl, ?_⟩
  have hall : ∀ x ∈ (List.range xs.length).map f, x.length = sz := by
   intro x hx
   simp only [List.mem_map, List.mem_range] at hx
   obtain ⟨k, hk', rfl⟩ := hx
   rw [hf k hk']; exact (hk k hk').choose_spec.1
  have hjl : j < xs.length * sz := by
   have := flatten_len sz _ hall
   rw [List.length_map, List.length_range] at this
   rw [← this]
   rcases Nat.lt_or_ge j ((List.range xs.length).map f).flatten.length with h | h
   ·exact h
   ·rw [List.getElem?_eq_none h] at hj; cases hj
  have hq : j / sz < xs.length := Nat.div_lt_of_lt_mul (by rw [Nat.mul_comm]; exact hjl)
  have hr : j % sz < sz := Nat.mod_lt _ h0
  have hjd : j / sz * sz + j % sz = j := Nat.div_add_mod' j sz
  have := flatten_get ((List.range xs.length).map f) sz (j / sz) (j % sz) (f (j / sz)) hall (by simp [List.getElem?_range hq]) hr
  rw [hjd, hj] at this
  rw [hf _ hq] at this
  have hc := (hk _ hq).choose_spec.2.2.at_ (j % sz) this.symm
  have hadd : (⟨g, o, none⟩ : Addr).add j = ⟨g, o + j / sz * sz + j % sz, none⟩ := by
   rw [Nat.add_assoc, hjd]; unfold Addr.add; split <;> simp_all
  rw [hadd]; exact hc
theorem run_append_src (w : World) {t ty e sz by_ base : Nat} {v : Value} {xs ys : List α} {A : Option Addr} {c : Nat} (hi : SlInfo P t e sz by_) (hR : Fair R)
  (hown : Own base e sz R T w v xs) (hsrc : Src sz R T w A ys) (hT : ∀ g, T g → g < w.heap.size) (hb : (xs.length + ys.length) * by_ ≤ 140737488355328) (hbase : base ≤ w.heap.size) :
  ∃ v' w', (Builtin.append_ #[t, t] ty #[v, .slice A ys.length c]).run P w = .ok v' w' ∧ Own base e sz R T w' v' (xs ++ ys) ∧ w.grownBy w' v.ownBlock ∧ (v'.ownBlock = v.ownBlock ∨ v'.ownBlock = some w.heap.size) := by
 obtain ⟨ht, h0, hby, i, z, hi1, hz, hs, hbb, hzs⟩ := hi
 obtain ⟨css, ho1, ho2, ho3, ho4⟩ := hown
 obtain ⟨ds, hd1, hd2, hd3, hd4⟩ := hsrc
 have hlen : ds.flatten.length = ys.length * sz := by rw [flatten_len sz ds (fun x hx => (hd2 x hx).1), hd1]
 have hone : ∀ u ∈ ds.flatten, u.oneCell' = true := by
  intro u hu
  obtain ⟨l, hl, hu⟩ := List.mem_flatten.1 hu
  exact (hd2 l hl).2 u hu
 have hle : xs.length + ys.length ≤ maxLen := by
  have : (xs.length + ys.length) * 1 ≤ (xs.length + ys.length) * by_ := Nat.mul_le_mul_left _ hby
  unfold maxLen; omega
 have fin : ∀ v' w', w'.ownsRow base e sz v' (xs.length + ys.length) (css.flatten ++ ds.flatten) → w.grownBy w' v.ownBlock → (v'.ownBlock = v.ownBlock ∨ v'.ownBlock = some w.heap.size) → Own base e sz R T w' v' (xs ++ ys) := by
  intro v' w' h1 h2 h3
  refine ⟨css ++ ds, by rw [List.length_append, List.flatten_append]; exact h1, by simp [ho2, hd1], ?_, ?_⟩
  ·intro k hk
   rcases h3 with h3 | h3
   ·exact ho3 k (h3 ▸ hk)
   ·rw [h3] at hk; simp at hk; subst hk
    intro hk; have := hT _ hk; omega
  ·intro k x cs hx hc
   have hkeep : Keep T w w' := Keep.of_grown h2 (fun k hk => ho3 k hk)
   by_cases hk : k < xs.length
   ·rw [List.getElem?_append_left hk] at hx
    rw [List.getElem?_append_left (by omega)] at hc
    exact ⟨(ho4 k x cs hx hc).1, hR.keep (ho4 k x cs hx hc).2 hkeep⟩
   ·rw [List.getElem?_append_right (by omega)] at hx
    rw [List.getElem?_append_right (by omega), ho2] at hc
    exact ⟨(hd2 cs (List.mem_of_getElem? hc)).1, hR.keep (hd3 _ x cs hx hc) hkeep⟩
 rcases A with _ | ad
 ·have hy : ys.length = 0 := by
   rcases Nat.eq_zero_or_pos ys.length with h | h
   ·exact h
   ·have hp : 0 < ds.flatten.length := by rw [hlen]; exact Nat.mul_pos h h0
    obtain ⟨ad, h, _⟩ := hd4 0 _ (List.getElem?_eq_getElem hp)
    cases h
  have hy' : ys = [] := List.eq_nil_of_length_eq_zero hy
  subst hy'
  have hr : (Builtin.append_ #[t, t] ty #[v, .slice none 0 c]).run P w = .ok v w := by
   rcases ho1.2 with ⟨rfl, hx0⟩ | ⟨g, cap, cur, rfl, _, _, hnc, _⟩
   ·simp [Builtin.append_, run_underlying ht, sizeOf, typeInfo, hi1, Builtin.lenOf, Builtin.firstCells]
   ·simp [Builtin.append_, run_underlying ht, sizeOf, typeInfo, hi1, Builtin.lenOf, Builtin.firstCells, hnc, storeCells]
  have hds : ds = [] := List.eq_nil_of_length_eq_zero (by simpa using hd1)
  subst hds
  exact ⟨v, w, by simpa using hr, by simpa using fin v w (by simpa using ho1) (World.grownBy.refl w _) (.inl rfl), World.grownBy.refl w _, .inl rfl⟩
 ·obtain ⟨v', w', hrun, h2, h3, _, h5⟩ := run_append_own_at (P := P) w base t ty e i z sz by_ ht hi1 hz hs hbb hzs h0 v xs.length css.flatten ho1 ad ys.length c ds.flatten hlen
   (fun j u hu => by obtain ⟨ad', h, hc⟩ := hd4 j u hu; cases h; exact hc) hone hle hb hbase
  exact ⟨v', w', hrun, fin v' w' h2 h3 h5, h3, h5⟩
theorem wl_append {ops : Array Oper} {rest : List Oper} {o : Oper} {a : Act} {Q : Exit → Act → World → Prop} (w : World) (hgd : o.guard = none) (s x : Operand) {t e sz by_ base : Nat} {v : Value} {xs ys : List α} {A : Option Addr} {c : Nat}
  (ho : o.op = .call { callee := .builtin .append, args := #[s, x], argTypes := #[t, t] }) (hi : SlInfo P t e sz by_) (hR : Fair R) (hs : a.eval s = v) (hx : a.eval x = .slice A ys.length c)
  (hown : Own base e sz R T w v xs) (hsrc : Src sz R T w A ys) (hT : ∀ g, T g → g < w.heap.size) (hb : (xs.length + ys.length) * by_ ≤ 140737488355328) (hbase : base ≤ w.heap.size)
  (h : ∀ v' w', Own base e sz R T w' v' (xs ++ ys) → w.grownBy w' v.ownBlock → (v'.ownBlock = v.ownBlock ∨ v'.ownBlock = some w.heap.size) → wpList P ops Q rest (a.put o.dst v') w') : wpList P ops Q (o :: rest) a w :=
 wpList_plain hgd fun _ hK => by
  obtain ⟨v', w', hrun, h2, h3, h4⟩ := run_append_src (P := P) w (ty := o.type) (c := c) hi hR hown hsrc hT hb hbase
  unfold Oper.wp execOp
  simp only [ho, resolve, invoke, builtin, Sem.run_bind, Sem.run_pure, Result.andThen_ok, List.map_toArray, List.map_cons, List.map_nil, hs, hx, hrun]
  exact hK _ _ (h v' w' h2 h3 h4)
theorem Own.read {base e sz by_ : Nat} {v : Value} {xs : List α} {S : Nat → Prop} (hR : Fair R) (h : Own base e sz R T w v xs) (hT : ∀ g, T g → g < w.heap.size → S g) (hv : ∀ k, v.ownBlock = some k → S k)
  (hcap : xs.length * by_ ≤ 140737488351232) : RSl sz by_ R S w [v] xs := by
 obtain ⟨css, h1, h2, h3, h4⟩ := h
 rcases h1.2 with ⟨rfl, hn⟩ | ⟨g, cap, cur, rfl, hb, hg, hnc, hcm, hcs, htk⟩
 ·have : xs = [] := List.eq_nil_of_length_eq_zero hn
  subst this; exact RSl.nil_
 ·refine ⟨_, cap, rfl, hnc, hcap, fun k x hx => ?_⟩
  have hk : k < xs.length := by
   rcases Nat.lt_or_ge k xs.length with h | h
   ·exact h
   ·rw [List.getElem?_eq_none h] at hx; cases hx
  have hc : css[k]? = some (css[k]'(by omega)) := List.getElem?_eq_getElem (by omega)
  obtain ⟨hl, hr⟩ := h4 k x _ hx hc
  refine ⟨g, 0, _, rfl, hv g rfl, (Array.getElem?_eq_some_iff.1 hg).1, hl, hR.mono hr hT, fun j hj => ?_⟩
  have hall : ∀ x ∈ css, x.length = sz := by
   intro c hc
   obtain ⟨i, hi, rfl⟩ := List.getElem_of_mem hc
   exact (h4 i (xs[i]'(by omega)) _ (List.getElem?_eq_getElem (by omega)) (List.getElem?_eq_getElem hi)).1
  have hfl := flatten_get css sz k j _ hall hc (by omega)
  have hv' : (css[k]'(by omega))[j]? = some ((css[k]'(by omega))[j]) := List.getElem?_eq_getElem hj
  rw [hv'] at hfl
  have := h1.cells (g := g) rfl (k * sz + j) _ hfl
  have hadd : (⟨g, 0, none⟩ : Addr).add (k * sz + j) = ⟨g, 0 + k * sz + j, none⟩ := by unfold Addr.add; split <;> simp_all
  rw [hadd] at this
  rw [this, hv']
end
def NoT : Nat → Prop := fun _ => False
theorem NoT.lt (w : World) : ∀ g, NoT g → g < w.heap.size := fun _ h => h.elim
def Ret (w : World) (v : Value) (e : Ending) (w' : World) : Prop := e = .returned v ∧ Below w.heap.size w w'
def Box (w : World) (g : Nat) (t : TypeId) (cs : List Value) : Prop := w.heap[g]? = some (.cells cs.toArray t (0, 0))
section
variable {w w' : World} {g : Nat} {t : TypeId} {cs : List Value}
theorem Box.lt (h : Box w g t cs) : g < w.heap.size := (Array.getElem?_eq_some_iff.1 h).1
theorem Box.cell (h : Box w g t cs) (i : Nat) : w.cell? ⟨g, i, none⟩ = cs[i]? := by rw [cell_of_row w g i cs.toArray t (0, 0) h]; simp
theorem Box.frozen (h : Box w g t cs) (i : Nat) : w.frozen? ⟨g, i, none⟩ = false := by unfold Box at h; simp [World.frozen?, h]
theorem Box.new (w : World) (t : TypeId) (cs : List Value) : Box (w.alloc (.cells cs.toArray t)) w.heap.size t cs := heap_alloc_new w _
theorem Box.keep {S : Nat → Prop} (h : Box w g t cs) (hk : Keep S w w') (hs : S g) : Box w' g t cs := (hk.2 g hs h.lt).trans h
theorem Box.below {B : Nat} (h : Box w g t cs) (hb : Below B w w') (hg : g < B) : Box w' g t cs := (hb.block g hg).trans h
theorem Box.grown {row : Option Nat} (h : Box w g t cs) (hb : w.grownBy w' row) (hg : row ≠ some g) : Box w' g t cs := (hb.block g h.lt (fun e => hg e.symm)).trans h
theorem Box.alloc (h : Box w g t cs) (o : Obj) : Box (w.alloc o) g t cs := (Below.heap_alloc w o g h.lt).trans h
theorem Box.set_ (h : Box w g t cs) (i : Nat) (u : Value) : Box (w.setCell ⟨g, i, none⟩ u) g t (cs.set i u) := by
 unfold Box at h ⊢
 simp [World.setCell, Array.getElem?_modify, h]
theorem Box.far (h : Box w g t cs) {p : Addr} (hp : g ≠ p.block) (u : Value) : Box (w.setCell p u) g t cs := (Below.heap_setCell w p u g hp).trans h
theorem Box.drew (h : Box w g t cs) : Box w.drew g t cs := h
theorem Box.drewN (h : Box w g t cs) (n : Nat) : Box (w.drewN n) g t cs := h
theorem Box.ne_own {α : Type} {R : Rel α} {base e sz : Nat} {T : Nat → Prop} {v : Value} {xs : List α} (h : Box w g t cs) (ho : Own base e sz R T w v xs) (hne : e ≠ t) : v.ownBlock ≠ some g := by
 obtain ⟨css, h1, _⟩ := ho
 rcases h1.2 with ⟨rfl, _⟩ | ⟨g', cap, cur, rfl, _, hh, _⟩
 ·simp [Value.ownBlock]
 ·intro he
  have : g' = g := by simpa [Value.ownBlock] using he
  subst this
  unfold Box at h
  rw [hh] at h
  injection h with h
  injection h with _ ht
  exact hne ht
end
theorem below_grown {B : Nat} {a b c : World} {row : Option Nat} (h : Below B a b) (k : b.grownBy c row) (hB : B ≤ b.heap.size) (hr : ∀ g, row = some g → B ≤ g) : Below B a c := h.grown k hB hr
theorem below_via {B : Nat} {a b c : World} (h : Below B a b) (k : Below b.heap.size b c) (hB : B ≤ b.heap.size) : Below B a c := h.trans (k.mono hB)
theorem Own.below {α : Type} {R : Rel α} {base e sz : Nat} {T : Nat → Prop} {w w' : World} {v : Value} {xs : List α} (hR : Fair R) (h : Own base e sz R T w v xs) (hb : Below w.heap.size w w') : Own base e sz R T w' v xs :=
 h.kept hR (row := none) (grown_below hb none) (by cases hv : v.ownBlock <;> simp) (by simp)
theorem Own.form {α : Type} {R : Rel α} {base e sz : Nat} {T : Nat → Prop} {w : World} {v : Value} {xs : List α} (h : Own base e sz R T w v xs) : ∃ A cap, v = .slice A xs.length cap ∧ xs.length ≤ cap := by
 obtain ⟨css, h1, _⟩ := h
 rcases h1.2 with ⟨rfl, h0⟩ | ⟨g, cap, cur, rfl, _, _, hc, _⟩
 ·exact ⟨none, 0, by rw [h0], by omega⟩
 ·exact ⟨_, cap, rfl, hc⟩
theorem Own.drew {α : Type} {R : Rel α} {base e sz : Nat} {T : Nat → Prop} {w : World} {v : Value} {xs : List α} (hR : Fair R) (h : Own base e sz R T w v xs) : Own base e sz R T w.drew v xs :=
 h.kept hR (row := none) ⟨rfl, rfl, rfl, Nat.le_refl _, fun _ _ _ => rfl⟩ (by cases hv : v.ownBlock <;> simp) (by simp)
theorem below_drew {B : Nat} {a w : World} (h : Below B a w) : Below B a w.drew := h.drew
theorem below_drewN {B : Nat} {a w : World} (h : Below B a w) (n : Nat) : Below B a (w.drewN n) := ⟨h.os, h.tape, h.output, h.size, h.block⟩
section
variable {α : Type} {P : Program} {R : Rel α} {T : Nat → Prop}
theorem wp_append {o : Oper} {a : Act} {K : Act → World → Prop} {Q : Exit → Act → World → Prop} (w : World) (s x : Operand) {t e sz by_ base : Nat} {v : Value} {xs ys : List α} {A : Option Addr} {c : Nat}
  (ho : o.op = .call { callee := .builtin .append, args := #[s, x], argTypes := #[t, t] }) (hi : SlInfo P t e sz by_) (hR : Fair R) (hs : a.eval s = v) (hx : a.eval x = .slice A ys.length c)
  (hown : Own base e sz R T w v xs) (hsrc : Src sz R T w A ys) (hT : ∀ g, T g → g < w.heap.size) (hb : (xs.length + ys.length) * by_ ≤ 140737488355328) (hbase : base ≤ w.heap.size)
  (h : ∀ v' w', Own base e sz R T w' v' (xs ++ ys) → w.grownBy w' v.ownBlock → (v'.ownBlock = v.ownBlock ∨ v'.ownBlock = some w.heap.size) → K (a.put o.dst v') w') : o.wp P a w K Q := by
 obtain ⟨v', w', hrun, h2, h3, h4⟩ := run_append_src (P := P) w (ty := o.type) (c := c) hi hR hown hsrc hT hb hbase
 unfold Oper.wp execOp
 simp only [ho, resolve, invoke, builtin, Sem.run_bind, Sem.run_pure, Result.andThen_ok, List.map_toArray, List.map_cons, List.map_nil, hs, hx, hrun]
 exact h v' w' h2 h3 h4
theorem step_append {ops : Array Oper} {o : Oper} {a : Act} {K : Act → World → Prop} {Q : Exit → Act → World → Prop} {E : Prop} (w : World) (hgd : o.guard = none) (s x : Operand) {t e sz by_ base : Nat} {v : Value} {xs ys : List α} {A : Option Addr} {c : Nat}
  (ho : o.op = .call { callee := .builtin .append, args := #[s, x], argTypes := #[t, t] }) (hi : SlInfo P t e sz by_) (hR : Fair R) (hs : a.eval s = v) (hx : a.eval x = .slice A ys.length c)
  (hown : Own base e sz R T w v xs) (hsrc : Src sz R T w A ys) (hT : ∀ g, T g → g < w.heap.size) (hb : (xs.length + ys.length) * by_ ≤ 140737488355328) (hbase : base ≤ w.heap.size)
  (h : ∀ v' w', Own base e sz R T w' v' (xs ++ ys) → w.grownBy w' v.ownBlock → (v'.ownBlock = v.ownBlock ∨ v'.ownBlock = some w.heap.size) → K (a.put o.dst v') w') :
  if Region.wanted o (yielded ops a.tmps) = true then Oper.wp P o a w K Q else E := by
 rw [if_pos (show Region.wanted o (yielded ops a.tmps) = true by simp [Region.wanted, hgd])]
 exact wp_append w s x ho hi hR hs hx hown hsrc hT hb hbase h
end
theorem RSl.of_box {α : Type} {sz by_ : Nat} {R : Rel α} {S : Nat → Prop} {w : World} {g e cap : Nat} {css : List (List Value)} {xs : List α} (h : Box w g e css.flatten) (hl : css.length = xs.length) (hs : S g) (hc : xs.length ≤ cap) (hb : xs.length * by_ ≤ 140737488351232)
  (hr : ∀ (k : Nat) (x : α) (cs : List Value), xs[k]? = some x → css[k]? = some cs → cs.length = sz ∧ R S w cs x) : RSl sz by_ R S w [.slice (some ⟨g, 0, none⟩) xs.length cap] xs := by
 refine ⟨_, cap, rfl, hc, hb, fun k x hx => ?_⟩
 have hk : k < xs.length := by
  rcases Nat.lt_or_ge k xs.length with h | h
  ·exact h
  ·rw [List.getElem?_eq_none h] at hx; cases hx
 have hcs : css[k]? = some (css[k]'(by omega)) := List.getElem?_eq_getElem (by omega)
 obtain ⟨h1, h2⟩ := hr k x _ hx hcs
 have hall : ∀ x ∈ css, x.length = sz := by
  intro c hc
  obtain ⟨i, hi, rfl⟩ := List.getElem_of_mem hc
  exact (hr i (xs[i]'(by omega)) _ (List.getElem?_eq_getElem (by omega)) (List.getElem?_eq_getElem hi)).1
 refine ⟨g, 0, _, rfl, hs, h.lt, h1, h2, fun j hj => ?_⟩
 have hfl := flatten_get css sz k j _ hall hcs (by omega)
 rw [show (0 + k * sz + j) = k * sz + j from by omega, h.cell, hfl]
theorem RSl.of_box_flat {α : Type} {sz by_ : Nat} {enc : α → List Value} {S : Nat → Prop} {w : World} {g e cap : Nat} {xs : List α} (h : Box w g e (xs.map enc).flatten) (hs : S g) (hc : xs.length ≤ cap) (hb : xs.length * by_ ≤ 140737488351232)
  (hr : ∀ x ∈ xs, (enc x).length = sz) : RSl sz by_ (RFlat enc) S w [.slice (some ⟨g, 0, none⟩) xs.length cap] xs :=
 RSl.of_box (css := xs.map enc) h (by simp) hs hc hb (fun k x cs hx hcs => by
  simp [List.getElem?_map, hx] at hcs
  subst hcs
  exact ⟨hr x (List.mem_of_getElem? hx), rfl⟩)
def Old (w : World) : Nat → Prop := fun g => g < w.heap.size
theorem Fair.old {α : Type} {R : Rel α} (hR : Fair R) {S : Nat → Prop} {w : World} {cs : List Value} {x : α} (h : R S w cs x) : R (Old w) w cs x := hR.mono h fun _ _ hg => hg
theorem Fair.below {α : Type} {R : Rel α} (hR : Fair R) {S : Nat → Prop} {w w' : World} {cs : List Value} {x : α} (h : R S w cs x) (hb : Below w.heap.size w w') : R S w' cs x := hR.keep h (Keep.of_below hb)
theorem Own.setCell {α : Type} {R : Rel α} {base e sz : Nat} {T : Nat → Prop} {w : World} {v : Value} {xs : List α} (hR : Fair R) (h : Own base e sz R T w v xs) {p : Addr} (u : Value) (hv : v.ownBlock ≠ some p.block) (hT : ¬ T p.block) : Own base e sz R T (w.setCell p u) v xs :=
 h.kept hR (row := some p.block) (grown_setCell (World.grownBy.refl _ _) (.inl rfl) u) (.inr hv) (by rintro k hk; cases hk; exact hT)
def strLen (w : World) (g : Nat) : Nat := match w.cell? ⟨g, 0, none⟩ with | some (.string s) => s.size | _ => 0
theorem strLen_of {w : World} {g : Nat} {s : ByteArray} (h : w.cell? ⟨g, 0, none⟩ = some (.string s)) : strLen w g = s.size := by unfold strLen; rw [h]
end Go.Proofs.YtihdnjnhhhafkaaGreatDoor
namespace Go.Proofs.YtihdnjnhhhafkaaGreatDoor
open Go.RowKit Go.Lib
abbrev bytes (s : ByteArray) : List UInt8 := s.data.toList
def RByte : Rel UInt8 := RFlat fun b => [.int .u8 b.toNat]
theorem RByte.fair : Fair RByte := RFlat.fair _
theorem bytes_extract (s : ByteArray) (a b : Nat) : bytes (s.extract a b) = ((bytes s).drop a).take (b - a) := by
 simp only [bytes, ByteArray.data_extract, Array.toList_extract]
theorem bytes_from (s : ByteArray) (a : Nat) : bytes (s.extract a s.size) = (bytes s).drop a := by
 rw [bytes_extract, List.take_of_length_le]
 simp [bytes]
theorem bytes_to (s : ByteArray) (b : Nat) : bytes (s.extract 0 b) = (bytes s).take b := by
 rw [bytes_extract]; simp
theorem ba_of {s : ByteArray} {l : List UInt8} (h : bytes s = l) : s = ⟨l.toArray⟩ := by
 subst h; obtain ⟨⟨l⟩⟩ := s; rfl
theorem bytes_append (a b : ByteArray) : bytes (a ++ b) = bytes a ++ bytes b := by simp [bytes]
theorem bytes_len (s : ByteArray) : (bytes s).length = s.size := rfl
theorem bytes_of (l : List UInt8) : bytes ⟨l.toArray⟩ = l := rfl
def byteV (b : UInt8) : Value := .int .u8 b.toNat
theorem flatten_one : ∀ xs : List UInt8, (xs.map fun b => [byteV b]).flatten = xs.map byteV
 | [] => rfl
 | x :: xs => by simp [flatten_one xs]
theorem own_bytes_cells {base e : Nat} {T : Nat → Prop} {w : World} {v : Value} {xs : List UInt8} (h : Own base e 1 RByte T w v xs) :
  w.ownsRow base e 1 v xs.length (xs.map byteV) ∧ (∀ k, v.ownBlock = some k → ¬ T k) := by
 obtain ⟨css, h1, h2, h3, h4⟩ := h
 have hf : css.flatten = xs.map byteV := by
  have : css = xs.map fun b => [byteV b] := by
   apply List.ext_getElem
   ·simp [h2]
   ·intro k hk1 hk2
    have := (h4 k (xs[k]'(by omega)) css[k] (List.getElem?_eq_getElem (by omega)) (List.getElem?_eq_getElem hk1)).2
    simp [RByte, RFlat] at this
    simp [this, byteV]
  rw [this, flatten_one]
 rw [hf] at h1
 exact ⟨h1, h3⟩
theorem own_bytes_of {base e : Nat} {T : Nat → Prop} {w : World} {v : Value} {xs : List UInt8} (h : w.ownsRow base e 1 v xs.length (xs.map byteV)) (h3 : ∀ k, v.ownBlock = some k → ¬ T k) : Own base e 1 RByte T w v xs := by
 refine ⟨xs.map fun b => [byteV b], ?_, by simp, h3, ?_⟩
 ·rw [flatten_one]; exact h
 ·intro k x cs hx hc
  simp [List.getElem?_map, hx] at hc
  subst hc
  exact ⟨rfl, rfl⟩
section
variable {P : Program} (w : World)
theorem run_append_str {t u ty e base : Nat} {T : Nat → Prop} {v : Value} {xs : List UInt8} (hi : SlInfo P t e 1 1) (hz : (P.info? e).bind (·.zero) = some (.int .u8 0)) (hu : P.underlying u = some .string)
  (hown : Own base e 1 RByte T w v xs) (s : ByteArray) (hT : ∀ g, T g → g < w.heap.size) (hb : xs.length + s.size ≤ 140737488355328) (hbase : base ≤ w.heap.size) :
  ∃ v' w', (Builtin.append_ #[t, u] ty #[v, .string s]).run P w = .ok v' w' ∧ Own base e 1 RByte T w' v' (xs ++ bytes s) ∧ w.grownBy w' v.ownBlock ∧ (v'.ownBlock = v.ownBlock ∨ v'.ownBlock = some w.heap.size) := by
 obtain ⟨ht, _, _, i, z, hi1, hz1, hs1, hby, hzs⟩ := hi
 have hz0 : z = .int .u8 0 := by
  rw [hi1] at hz
  simp [hz1] at hz
  exact hz
 subst hz0
 obtain ⟨h1, h3⟩ := own_bytes_cells hown
 have hsb : strCells s = (bytes s).map byteV := rfl
 have hsz : s.size = (bytes s).length := rfl
 have hml : xs.length + s.size ≤ maxLen := by unfold maxLen; omega
 have mk : ∀ v' w', w'.ownsRow base e 1 v' (xs.length + s.size) (xs.map byteV ++ strCells s) → (v'.ownBlock = v.ownBlock ∨ v'.ownBlock = some w.heap.size) → Own base e 1 RByte T w' v' (xs ++ bytes s) := by
  intro v' w' h h'
  refine own_bytes_of (by rw [List.length_append, List.map_append, ← hsz, ← hsb]; exact h) fun k hk => ?_
  rcases h' with h' | h'
  ·exact h3 k (h' ▸ hk)
  ·rw [h'] at hk; cases hk
   intro hk; have := hT _ hk; omega
 have grown : ∀ (old : Nat), old < xs.length + s.size → ∀ (row : Option Nat),
   (w.drew.alloc (.cells ((xs.map byteV).toArray ++ (strCells s).toArray ++ Builtin.zeroCells (Value.int .u8 0).cells (grownCap w (xs.length + s.size) old e - (xs.length + s.size))) e)).ownsRow base e 1
    (.slice (some ⟨w.heap.size, 0, none⟩) (xs.length + s.size) (grownCap w (xs.length + s.size) old e)) (xs.length + s.size) (xs.map byteV ++ strCells s) ∧
   w.grownBy (w.drew.alloc (.cells ((xs.map byteV).toArray ++ (strCells s).toArray ++ Builtin.zeroCells (Value.int .u8 0).cells (grownCap w (xs.length + s.size) old e - (xs.length + s.size))) e)) row := by
  intro old _ row
  have hge := grownCap_ge w (xs.length + s.size) old e
  have hlen : (xs.map byteV ++ strCells s).length = (xs.length + s.size) * 1 := by rw [List.length_append, strCells_length, List.length_map, Nat.mul_one]
  refine ⟨⟨hlen, .inr ⟨w.heap.size, _, _, rfl, hbase, heap_alloc_new w.drew _, hge, grownCap_le_maxLen w _ old e hml, ?_, ?_⟩⟩, ⟨rfl, rfl, rfl, by simp, fun k hk _ => Below.heap_alloc w.drew _ k hk⟩⟩
  ·have hz1 : (Value.int IntKind.u8 0).cells.size = 1 := rfl
   simp only [Array.size_append, List.size_toArray, size_zeroCells, hz1, strCells_length, List.length_map]
   omega
  ·simp only [Array.toList_append, List.append_assoc]
   rw [← List.append_assoc, ← hlen]
   exact List.take_left
 rcases h1.2 with ⟨rfl, hx0⟩ | ⟨g, cap, cur, rfl, hbg, hg, hnc, hcm, hcs, htake⟩
 ·have hx : xs = [] := List.eq_nil_of_length_eq_zero hx0
  subst hx
  by_cases hm : s.size = 0
  ·have hn : strCells s = [] := List.eq_nil_of_length_eq_zero (by rw [strCells_length]; exact hm)
   refine ⟨.slice none 0 0, w, ?_, mk _ _ (by rw [hm, hn]; exact World.ownsRow_nil w base e 1) (.inl rfl), World.grownBy.refl w _, .inl rfl⟩
   have hf := run_firstCells_string (P := P) w 1 s
   rw [hm] at hf
   simp [Builtin.append_, run_underlying ht, run_underlying hu, sizeOf, typeInfo, hi1, hs1, Builtin.lenOf, hm, hf]
  ·have hr := run_append_nil_string (P := P) w t u ty e i (.int .u8 0) ht hu hi1 hz1 s (by omega) (by omega) (by rw [hby]; simp at hb; omega)
   have hgr := grown 0 (by simp; omega) (Value.ownBlock (.slice none 0 0))
   simp only [List.length_nil, Nat.zero_add, List.nil_append, Array.empty_append, List.map_nil] at hgr
   have e1 : (s.data.map fun b => Value.int .u8 b.toNat) = (strCells s).toArray := by
    apply Array.ext'
    simp [strCells]
   rw [e1] at hr
   exact ⟨_, _, hr, mk _ _ (by simpa using hgr.1) (.inr rfl), hgr.2, .inr rfl⟩
 ·by_cases hroom : xs.length + s.size ≤ cap
  ·have hcs' : cur.size = cap := by simpa using hcs
   have hr := run_append_room_string (P := P) w t u ty e i ht hu hi1 hs1 g xs.length cap cur hg s hroom (by omega)
   refine ⟨_, _, hr, mk _ _ ⟨by rw [List.length_append, strCells_length, List.length_map, Nat.mul_one], .inr ⟨g, cap, _, rfl, hbg, setRow_heap w g cur _ e _ hg, hroom, hcm, ?_, ?_⟩⟩ (.inl rfl), ⟨rfl, rfl, rfl, by simp, fun k _ hk => setRow_other w g k _ (fun e => hk (by simp [Value.ownBlock, e]))⟩, .inl rfl⟩
   ·simp only [List.size_toArray, List.length_append, List.length_take, List.length_drop, Array.length_toList, strCells_length]
    omega
   ·have ht' : cur.toList.take xs.length = xs.map byteV := by simpa using htake
    have hlen : (xs.map byteV ++ strCells s).length = (xs.length + s.size) * 1 := by rw [List.length_append, strCells_length, List.length_map, Nat.mul_one]
    rw [ht', ← hlen]
    exact List.take_left
  ·have holds : ∀ j u, (xs.map byteV)[j]? = some u → w.cell? ((⟨g, 0, none⟩ : Addr).add j) = some u := h1.cells (g := g) rfl
   have hr := run_append_grow_string (P := P) w t u ty e i (.int .u8 0) ht hu hi1 hz1 ⟨g, 0, none⟩ xs.length cap (xs.map byteV) (by rw [hs1]; simp) holds s (by omega) (by omega) (by rw [hby]; exact growslice_fits (by omega) (by omega))
   have hgr := grown cap (by omega) (Value.ownBlock (.slice (some ⟨g, 0, none⟩) xs.length cap))
   exact ⟨_, _, hr, mk _ _ hgr.1 (.inr rfl), hgr.2, .inr rfl⟩
theorem wl_append_str {ops : Array Oper} {rest : List Oper} {o : Oper} {a : Act} {Q : Exit → Act → World → Prop} (w : World) (hgd : o.guard = none) (sl x : Operand) {t u e base : Nat} {T : Nat → Prop} {v : Value} {xs : List UInt8} {s : ByteArray}
  (ho : o.op = .call { callee := .builtin .append, args := #[sl, x], argTypes := #[t, u] }) (hi : SlInfo P t e 1 1) (hz : (P.info? e).bind (·.zero) = some (.int .u8 0)) (hu : P.underlying u = some .string) (hs : a.eval sl = v) (hx : a.eval x = .string s)
  (hown : Own base e 1 RByte T w v xs) (hT : ∀ g, T g → g < w.heap.size) (hb : xs.length + s.size ≤ 140737488355328) (hbase : base ≤ w.heap.size)
  (h : ∀ v' w', Own base e 1 RByte T w' v' (xs ++ bytes s) → w.grownBy w' v.ownBlock → (v'.ownBlock = v.ownBlock ∨ v'.ownBlock = some w.heap.size) → wpList P ops Q rest (a.put o.dst v') w') : wpList P ops Q (o :: rest) a w :=
 wpList_plain hgd fun _ hK => by
  obtain ⟨v', w', hrun, h2, h3, h4⟩ := run_append_str (P := P) w (ty := o.type) hi hz hu hown s hT hb hbase
  unfold Oper.wp execOp
  simp only [ho, resolve, invoke, builtin, Sem.run_bind, Sem.run_pure, Result.andThen_ok, List.map_toArray, List.map_cons, List.map_nil, hs, hx, hrun]
  exact hK _ _ (h v' w' h2 h3 h4)
theorem step_append_str {ops : Array Oper} {o : Oper} {a : Act} {K : Act → World → Prop} {Q : Exit → Act → World → Prop} {E : Prop} (w : World) (hgd : o.guard = none) (sl x : Operand) {t u e base : Nat} {T : Nat → Prop} {v : Value} {xs : List UInt8} {s : ByteArray}
  (ho : o.op = .call { callee := .builtin .append, args := #[sl, x], argTypes := #[t, u] }) (hi : SlInfo P t e 1 1) (hz : (P.info? e).bind (·.zero) = some (.int .u8 0)) (hu : P.underlying u = some .string) (hs : a.eval sl = v) (hx : a.eval x = .string s)
  (hown : Own base e 1 RByte T w v xs) (hT : ∀ g, T g → g < w.heap.size) (hb : xs.length + s.size ≤ 140737488355328) (hbase : base ≤ w.heap.size)
  (h : ∀ v' w', Own base e 1 RByte T w' v' (xs ++ bytes s) → w.grownBy w' v.ownBlock → (v'.ownBlock = v.ownBlock ∨ v'.ownBlock = some w.heap.size) → K (a.put o.dst v') w') :
  if Region.wanted o (yielded ops a.tmps) = true then Oper.wp P o a w K Q else E := by
 rw [if_pos (show Region.wanted o (yielded ops a.tmps) = true by simp [Region.wanted, hgd])]
 obtain ⟨v', w', hrun, h2, h3, h4⟩ := run_append_str (P := P) w (ty := o.type) hi hz hu hown s hT hb hbase
 unfold Oper.wp execOp
 simp only [ho, resolve, invoke, builtin, Sem.run_bind, Sem.run_pure, Result.andThen_ok, List.map_toArray, List.map_cons, List.map_nil, hs, hx, hrun]
 exact h v' w' h2 h3 h4
theorem foldl_push (xs : List UInt8) : ∀ s : ByteArray, (xs.map fun b => (b.toNat : Int)).foldl (fun r n => r.push (UInt8.ofNat n.toNat)) s = ⟨(s.data.toList ++ xs).toArray⟩ := by
 induction xs with
 | nil => intro s; simp
 | cons x xs ih =>
  intro s
  simp only [List.map_cons, List.foldl_cons]
  rw [ih]
  congr 1
  simp [ByteArray.push]
theorem run_string_of {t u e base : Nat} {T : Nat → Prop} {v : Value} {xs : List UInt8} (ht : P.underlying t = some (.slice e)) (he : P.underlying e = some (.int .u8)) (hu : P.underlying u = some .string)
  (hown : Own base e 1 RByte T w v xs) : (convert t u v).run P w = .ok (.string ⟨xs.toArray⟩) w := by
 obtain ⟨h1, _⟩ := own_bytes_cells hown
 rcases h1.2 with ⟨rfl, hx0⟩ | ⟨g, cap, cur, rfl, hbg, hg, hnc, hcm, hcs, htake⟩
 ·have hx : xs = [] := List.eq_nil_of_length_eq_zero hx0
  subst hx
  rw [run_convert_bytes_string w t u e _ _ _ ht he hu]
  rfl
 ·rw [run_convert_bytes_string w t u e _ _ _ ht he hu, run_bytesToString w _ _ _ (xs.map fun b => (b.toNat : Int)), foldl_push]
  ·simp
  ·have := run_loadCells_list (P := P) (w := w) ⟨g, 0, none⟩ (xs.map byteV) (h1.cells (g := g) rfl)
   rw [List.map_map]
   rw [List.length_map] at this
   exact this
end
end Go.Proofs.YtihdnjnhhhafkaaGreatDoor
namespace Go.Proofs.YtihdnjnhhhafkaaGreatDoor
open Go.RowKit
def setCells (w : World) (g : Nat) : Nat → List Value → World
 | _, [] => w
 | i, v :: vs => setCells (w.setCell ⟨g, i, none⟩ v) g (i + 1) vs
theorem Box.setCells_aux {g : Nat} {t : TypeId} : ∀ (bs : List Value) (i : Nat) (w : World) (as cs : List Value), as.length = i → Box w g t (as ++ cs) → bs.length = cs.length → Box (setCells w g i bs) g t (as ++ bs)
 | [], i, w, as, cs, _, h, hl => by
  have : cs = [] := List.eq_nil_of_length_eq_zero (by simpa using hl.symm)
  subst this; exact h
 | b :: bs, i, w, as, [], _, _, hl => by simp at hl
 | b :: bs, i, w, as, c :: cs, hi, h, hl => by
  have h1 := h.set_ i b
  have e : (as ++ c :: cs).set i b = as ++ b :: cs := by subst hi; simp
  rw [e] at h1
  have := Box.setCells_aux bs (i + 1) (w.setCell ⟨g, i, none⟩ b) (as ++ [b]) cs (by simp [hi]) (by simpa using h1) (by simpa using hl)
  simpa [setCells] using this
theorem Box.setCells {w : World} {g : Nat} {t : TypeId} {cs : List Value} (h : Box w g t cs) (bs : List Value) (hl : bs.length = cs.length) : Box (setCells w g 0 bs) g t bs := by
 have := Box.setCells_aux bs 0 w [] cs rfl (by simpa using h) hl
 simpa using this
theorem below_setCells {B g : Nat} {a : World} (hg : B ≤ g) : ∀ (bs : List Value) (i : Nat) (w : World), Below B a w → Below B a (setCells w g i bs)
 | [], _, _, h => h
 | b :: bs, i, w, h => below_setCells hg bs (i + 1) _ (h.setCell (p := ⟨g, i, none⟩) hg b)
theorem Below.here (w : World) : Below w.heap.size w w := Below.refl _ _
theorem ret_b {a b : Bool} (h : a = b) : Ending.returned (.bool a) = .returned (.bool b) := by rw [h]
theorem ret_i {a b : Int} (h : a = b) : Ending.returned (.int .i64 a) = .returned (.int .i64 b) := by rw [h]
section
variable {α : Type} {sz by_ : Nat} {R : Rel α} {S : Nat → Prop} {w : World} {xs : List α}
theorem RSl.base {A : Option Addr} {n cap : Nat} (h : RSl sz by_ R S w [.slice A n cap] xs) (h0 : 0 < xs.length) : ∃ g o, A = some ⟨g, o, none⟩ ∧ S g ∧ g < w.heap.size := by
 obtain ⟨g, o, es, h1, h2, h3, _⟩ := h.at_ h0
 exact ⟨g, o, h1, h2, h3⟩
theorem RSl.lies {g o n cap : Nat} (h : RSl sz by_ R S w [.slice (some ⟨g, o, none⟩) n cap] xs) {k : Nat} (hk : k < xs.length) : ∃ es, es.length = sz ∧ R S w es xs[k] ∧ Lies w g (o + k * sz) es := by
 obtain ⟨g', o', es, h1, _, _, h4, h5, h6⟩ := h.at_ hk
 simp only [Option.some.injEq, Addr.mk.injEq, and_true] at h1
 obtain ⟨rfl, rfl⟩ := h1
 exact ⟨es, h4, h5, h6⟩
theorem RSl.flat {enc : α → List Value} {g o n cap : Nat} (h : RSl sz by_ (RFlat enc) S w [.slice (some ⟨g, o, none⟩) n cap] xs) {k : Nat} (hk : k < xs.length) : Lies w g (o + k * sz) (enc xs[k]) := by
 obtain ⟨es, _, h2, h3⟩ := h.lies hk
 have h2' : es = enc xs[k] := h2
 rw [h2'] at h3
 exact h3
end
end Go.Proofs.YtihdnjnhhhafkaaGreatDoor
namespace Go.Proofs.YtihdnjnhhhafkaaGreatDoor
open Go.RowKit
structure FieldD where
 id : Int
 name : ByteArray
 type : ByteArray
 kind : Int
 rule : Int
 deriving DecidableEq
structure ItemD where
 name : ByteArray
 n : Int
 deriving DecidableEq
structure TypeD where
 name : ByteArray
 enum : Bool
 fields : List FieldD
 gone : List Int
 items : List ItemD
 deriving DecidableEq
def TypeD.zero : TypeD := ⟨⟨#[]⟩, false, [], [], []⟩
def FieldD.zero : FieldD := ⟨0, ⟨#[]⟩, ⟨#[]⟩, 0, 0⟩
abbrev BookD := List TypeD
def fieldCells (f : FieldD) : List Value := [.int .i64 f.id, .string f.name, .string f.type, .int .i64 f.kind, .int .i64 f.rule]
def RField : Rel FieldD := RFlat fieldCells
theorem RField.fair : Fair RField := RFlat.fair _
def itemCells (x : ItemD) : List Value := [.string x.name, .int .i64 x.n]
def RItem : Rel ItemD := RFlat itemCells
theorem RItem.fair : Fair RItem := RFlat.fair _
def RType : Rel TypeD := fun S w cs t => ∃ vf vg vi, cs = [.string t.name, .bool t.enum, vf, vg, vi] ∧ RSl 5 56 RField S w [vf] t.fields ∧ RSl 1 8 RInt S w [vg] t.gone ∧ RSl 2 24 RItem S w [vi] t.items
theorem RType.fair : Fair RType := ⟨by
  rintro S w w' cs t ⟨vf, vg, vi, h, a, b, c⟩ hk
  exact ⟨vf, vg, vi, h, (RSl.fair RField.fair).keep a hk, (RSl.fair RInt.fair).keep b hk, (RSl.fair RItem.fair).keep c hk⟩, by
  rintro S T w cs t ⟨vf, vg, vi, h, a, b, c⟩ hk
  exact ⟨vf, vg, vi, h, (RSl.fair RField.fair).mono a hk, (RSl.fair RInt.fair).mono b hk, (RSl.fair RItem.fair).mono c hk⟩⟩
theorem RType.zero {S : Nat → Prop} {w : World} : RType S w [.string ⟨#[]⟩, .bool false, .slice none 0 0, .slice none 0 0, .slice none 0 0] .zero :=
 ⟨_, _, _, rfl, RSl.nil_, RSl.nil_, RSl.nil_⟩
theorem RType.parts {S : Nat → Prop} {w : World} {cs : List Value} {t : TypeD} (h : RType S w cs t) :
  ∃ A1 c1 A2 c2 A3 c3, cs = [.string t.name, .bool t.enum, .slice A1 t.fields.length c1, .slice A2 t.gone.length c2, .slice A3 t.items.length c3] ∧
   RSl 5 56 RField S w [.slice A1 t.fields.length c1] t.fields ∧ RSl 1 8 RInt S w [.slice A2 t.gone.length c2] t.gone ∧ RSl 2 24 RItem S w [.slice A3 t.items.length c3] t.items := by
 obtain ⟨vf, vg, vi, rfl, a, b, c⟩ := h
 obtain ⟨A1, c1, rfl, _, _⟩ := a.form
 obtain ⟨A2, c2, rfl, _, _⟩ := b.form
 obtain ⟨A3, c3, rfl, _, _⟩ := c.form
 exact ⟨A1, c1, A2, c2, A3, c3, rfl, a, b, c⟩
def findT (b : BookD) (name : ByteArray) : Option TypeD := b.find? fun t => decide (t.name = name)
def fieldOf (t : TypeD) (id : Int) : Option FieldD := t.fields.find? fun f => decide (f.id = id)
theorem ba_eq (a b : ByteArray) : (a.toList == b.toList) = decide (a = b) := by
 rw [ByteArray.toList_eq, ByteArray.toList_eq, Bool.eq_iff_iff]
 obtain ⟨⟨a⟩⟩ := a
 obtain ⟨⟨b⟩⟩ := b
 simp
end Go.Proofs.YtihdnjnhhhafkaaGreatDoor
namespace Go.Proofs.YtihdnjnhhhafkaaGreatDoor
open Go.RowKit
theorem Box.farCells {g g' : Nat} {t : TypeId} {cs : List Value} (hg : g ≠ g') : ∀ (bs : List Value) (i : Nat) {w : World}, Box w g t cs → Box (Go.Proofs.YtihdnjnhhhafkaaGreatDoor.setCells w g' i bs) g t cs
 | [], _, _, h => h
 | b :: bs, i, _, h => Box.farCells hg bs (i + 1) (h.far (p := ⟨g', i, none⟩) hg b)
theorem Box.five {w : World} {g : Nat} {t : TypeId} {a b c d e : Value} (h : Box w g t [a, b, c, d, e]) :
  w.cell? ⟨g, 0, none⟩ = some a ∧ w.cell? ⟨g, 1, none⟩ = some b ∧ w.cell? ⟨g, 2, none⟩ = some c ∧ w.cell? ⟨g, 3, none⟩ = some d ∧ w.cell? ⟨g, 4, none⟩ = some e :=
 ⟨h.cell 0, h.cell 1, h.cell 2, h.cell 3, h.cell 4⟩
theorem Box.newB {B : Nat} {a w : World} (_ : Below B a w) (t : TypeId) (cs : List Value) : Box (w.alloc (.cells cs.toArray t)) w.heap.size t cs := Box.new w t cs
theorem Box.grownR {α : Type} {R : Rel α} {base e sz g : Nat} {T : Nat → Prop} {w w' : World} {v : Value} {xs : List α} {t : TypeId} {cs : List Value} (h : Box w g t cs) (ho : Own base e sz R T w v xs) (hc : g < base ∨ e ≠ t) (hg : w.grownBy w' v.ownBlock) : Box w' g t cs :=
 h.grown hg (by
  rcases hc with hc | hc
  ·intro e; have := (ho.lt e).1; omega
  ·exact h.ne_own ho hc)
theorem Box.lies {w : World} {g : Nat} {t : TypeId} {cs : List Value} (h : Box w g t cs) : Lies w g 0 cs := fun j _ => by rw [Nat.zero_add]; exact h.cell j
theorem Keep.setCells {S : Nat → Prop} {g : Nat} (hg : ¬ S g) : ∀ (vs : List Value) (i : Nat) (w : World), Keep S w (setCells w g i vs)
 | [], _, w => Keep.refl _ _
 | v :: vs, i, w => (Keep.setCell (S := S) w (a := ⟨g, i, none⟩) v hg).trans (Keep.setCells hg vs (i + 1) _)
section
variable (w : World) (a b c d : List Value) (ta tb tc td : TypeId)
theorem boxes1 : Box (w.alloc (.cells a.toArray ta)) w.heap.size ta a ∧ Below w.heap.size w (w.alloc (.cells a.toArray ta)) :=
 ⟨Box.new w ta a, (Below.refl _ _).alloc (Nat.le_refl _) _⟩
theorem boxes2 : Box ((w.alloc (.cells a.toArray ta)).alloc (.cells b.toArray tb)) w.heap.size ta a ∧ Box ((w.alloc (.cells a.toArray ta)).alloc (.cells b.toArray tb)) (w.heap.size + 1) tb b ∧
  Below w.heap.size w ((w.alloc (.cells a.toArray ta)).alloc (.cells b.toArray tb)) := by
 obtain ⟨h1, h2⟩ := boxes1 w a ta
 refine ⟨h1.alloc _, ?_, h2.alloc h2.size _⟩
 have := Box.new (w.alloc (.cells a.toArray ta)) tb b
 simpa using this
theorem boxes3 : Box (((w.alloc (.cells a.toArray ta)).alloc (.cells b.toArray tb)).alloc (.cells c.toArray tc)) w.heap.size ta a ∧ Box (((w.alloc (.cells a.toArray ta)).alloc (.cells b.toArray tb)).alloc (.cells c.toArray tc)) (w.heap.size + 1) tb b ∧
  Box (((w.alloc (.cells a.toArray ta)).alloc (.cells b.toArray tb)).alloc (.cells c.toArray tc)) (w.heap.size + 1 + 1) tc c ∧ Below w.heap.size w (((w.alloc (.cells a.toArray ta)).alloc (.cells b.toArray tb)).alloc (.cells c.toArray tc)) := by
 obtain ⟨h1, h2, h3⟩ := boxes2 w a b ta tb
 refine ⟨h1.alloc _, h2.alloc _, ?_, h3.alloc h3.size _⟩
 have := Box.new ((w.alloc (.cells a.toArray ta)).alloc (.cells b.toArray tb)) tc c
 simpa using this
theorem boxes4 : Box ((((w.alloc (.cells a.toArray ta)).alloc (.cells b.toArray tb)).alloc (.cells c.toArray tc)).alloc (.cells d.toArray td)) w.heap.size ta a ∧ Box ((((w.alloc (.cells a.toArray ta)).alloc (.cells b.toArray tb)).alloc (.cells c.toArray tc)).alloc (.cells d.toArray td)) (w.heap.size + 1) tb b ∧
  Box ((((w.alloc (.cells a.toArray ta)).alloc (.cells b.toArray tb)).alloc (.cells c.toArray tc)).alloc (.cells d.toArray td)) (w.heap.size + 1 + 1) tc c ∧ Box ((((w.alloc (.cells a.toArray ta)).alloc (.cells b.toArray tb)).alloc (.cells c.toArray tc)).alloc (.cells d.toArray td)) (w.heap.size + 1 + 1 + 1) td d ∧
  Below w.heap.size w ((((w.alloc (.cells a.toArray ta)).alloc (.cells b.toArray tb)).alloc (.cells c.toArray tc)).alloc (.cells d.toArray td)) := by
 obtain ⟨h1, h2, h3, h4⟩ := boxes3 w a b c ta tb tc
 refine ⟨h1.alloc _, h2.alloc _, h3.alloc _, ?_, h4.alloc h4.size _⟩
 have := Box.new (((w.alloc (.cells a.toArray ta)).alloc (.cells b.toArray tb)).alloc (.cells c.toArray tc)) td d
 simpa using this
end
end Go.Proofs.YtihdnjnhhhafkaaGreatDoor
namespace Go.Proofs.YtihdnjnhhhafkaaGreatDoor
open Go.RowKit
theorem or_key (a b : Int) (h1 : 0 ≤ a) (h2 : a ≤ 30) (h3 : 0 ≤ b) (h4 : b ≤ 3) : bits .or .u64 (a * 4) b = 4 * a + b := by
 have h : ∀ i : Fin 31, ∀ j : Fin 4, bits .or .u64 ((i.val : Int) * 4) (j.val : Int) = 4 * (i.val : Int) + (j.val : Int) := by decide +kernel
 have := h ⟨a.toNat, by omega⟩ ⟨b.toNat, by omega⟩
 simp only at this
 rwa [Int.toNat_of_nonneg h1, Int.toNat_of_nonneg h3] at this
theorem xor_zig (n : Int) (h1 : -1099511627776 ≤ n) (h2 : n ≤ 1099511627776) :
  IntKind.u64.wrap (bits .xor .i64 (n * 2) (n / 9223372036854775808)) = if n < 0 then -2 * n - 1 else 2 * n := by
 by_cases h : n < 0
 ·have hd : n / 9223372036854775808 = -1 := by omega
  rw [hd, if_pos h]
  show IntKind.u64.wrap (IntKind.i64.wrap ((BitVec.ofInt 64 (n * 2) ^^^ BitVec.ofInt 64 (-1)).toNat : Int)) = _
  have e1 : BitVec.ofInt 64 (-1) = BitVec.allOnes 64 := by decide
  rw [e1, BitVec.xor_allOnes, BitVec.toNat_not, BitVec.toNat_ofInt]
  have e2 : (((n * 2) % ((2 ^ 64 : Nat) : Int)).toNat : Int) = n * 2 + 18446744073709551616 := by omega
  simp only [IntKind.wrap_i64, IntKind.wrap_u64]
  omega
 ·have hd : n / 9223372036854775808 = 0 := by omega
  rw [hd, if_neg h]
  show IntKind.u64.wrap (IntKind.i64.wrap ((BitVec.ofInt 64 (n * 2) ^^^ BitVec.ofInt 64 0).toNat : Int)) = _
  have e1 : BitVec.ofInt 64 0 = 0#64 := by decide
  rw [e1, BitVec.xor_zero, BitVec.toNat_ofInt]
  have e2 : (((n * 2) % ((2 ^ 64 : Nat) : Int)).toNat : Int) = n * 2 := by omega
  simp only [IntKind.wrap_i64, IntKind.wrap_u64]
  omega
theorem and127 (c : Nat) (hc : c < 256) : bits .and .u8 (c : Int) 127 = ((c % 128 : Nat) : Int) := by
 have h : ∀ k : Fin 256, bits .and .u8 (k.val : Int) 127 = ((k.val % 128 : Nat) : Int) := by decide +kernel
 exact h ⟨c, hc⟩
theorem or_sev (n c k : Nat) (hk : k < 6) (hn : n < 128 ^ k) (hc : c < 256) :
  bits .or .u64 (n : Int) (IntKind.u64.wrap (IntKind.u64.wrap (bits .and .u8 (c : Int) 127) * 2 ^ (7 * k))) = ((n + (c % 128) * 128 ^ k : Nat) : Int) := by
 have hp : (2 : Nat) ^ (7 * k) = 128 ^ k := by rw [Nat.pow_mul]
 have hp6 : 128 ^ k ≤ 34359738368 := by
  have : 128 ^ k ≤ 128 ^ 5 := Nat.pow_le_pow_right (by decide) (by omega)
  simpa using this
 have hm : c % 128 * 128 ^ k ≤ 127 * 34359738368 := Nat.mul_le_mul (by omega) hp6
 have e1 : IntKind.u64.wrap (bits .and .u8 (c : Int) 127) = ((c % 128 : Nat) : Int) := by
  rw [and127 c hc, IntKind.wrap_u64]; omega
 have e2 : ((c % 128 : Nat) : Int) * 2 ^ (7 * k) = ((c % 128 * 128 ^ k : Nat) : Int) := by
  rw [← hp]; simp
 have e3 : IntKind.u64.wrap (((c % 128 * 128 ^ k : Nat) : Int)) = ((c % 128 * 128 ^ k : Nat) : Int) := by
  rw [IntKind.wrap_u64]; omega
 rw [e1, e2, e3, u64_or_nat n _ (by omega) (by omega), Nat.or_comm, nat_join (7 * k) _ _ (by rw [← hp]; simp) (by rw [hp]; exact hn), Nat.add_comm]
theorem and3 (n : Nat) (h : n < 18446744073709551616) : bits .and .u64 (n : Int) 3 = ((n % 4 : Nat) : Int) := by
 have := u64_and_nat n 3 h (by decide)
 rw [show ((3 : Nat) : Int) = 3 from rfl] at this
 rw [this, show (3 : Nat) = 2 ^ 2 - 1 from rfl, Nat.and_two_pow_sub_one_eq_mod]
theorem and1 (n : Nat) (h : n < 18446744073709551616) : bits .and .u64 (n : Int) 1 = ((n % 2 : Nat) : Int) := by
 have := u64_and_nat n 1 h (by decide)
 rw [show ((1 : Nat) : Int) = 1 from rfl] at this
 rw [this, show (1 : Nat) = 2 ^ 1 - 1 from rfl, Nat.and_two_pow_sub_one_eq_mod]
theorem xor_minus (a : Nat) (h : a < 4611686018427387904) : bits .xor .i64 (a : Int) (-1) = -(a : Int) - 1 := by
 show IntKind.i64.wrap ((BitVec.ofInt 64 (a : Int) ^^^ BitVec.ofInt 64 (-1)).toNat : Int) = _
 have e1 : BitVec.ofInt 64 (-1) = BitVec.allOnes 64 := by decide
 rw [e1, BitVec.xor_allOnes, BitVec.toNat_not, BitVec.toNat_ofInt]
 have e2 : (((a : Int) % ((2 ^ 64 : Nat) : Int)).toNat : Int) = a := by omega
 simp only [IntKind.wrap_i64]
 omega
theorem xor_zero (a : Nat) (h : a < 4611686018427387904) : bits .xor .i64 (a : Int) 0 = (a : Int) := by
 show IntKind.i64.wrap ((BitVec.ofInt 64 (a : Int) ^^^ BitVec.ofInt 64 0).toNat : Int) = _
 have e1 : BitVec.ofInt 64 0 = 0#64 := by decide
 rw [e1, BitVec.xor_zero, BitVec.toNat_ofInt]
 have e2 : (((a : Int) % ((2 ^ 64 : Nat) : Int)).toNat : Int) = a := by omega
 simp only [IntKind.wrap_i64]
 omega
theorem xor_zero' (n : Nat) (h : n < 4611686018427387904) : bits .xor .i64 ((n : Int) / 2) 0 = (n : Int) / 2 := by
 have := xor_zero (n / 2) (by omega)
 rwa [show ((n / 2 : Nat) : Int) = (n : Int) / 2 from by omega] at this
theorem xor_minus' (n : Nat) (h : n < 4611686018427387904) : bits .xor .i64 ((n : Int) / 2) (-1) = -((n : Int) / 2) - 1 := by
 have := xor_minus (n / 2) (by omega)
 rwa [show ((n / 2 : Nat) : Int) = (n : Int) / 2 from by omega] at this
end Go.Proofs.YtihdnjnhhhafkaaGreatDoor
namespace Go.Proofs.YtihdnjnhhhafkaaGreatDoor
structure Part where
 id : Int
 kind : Int
 n : Int
 s : ByteArray
deriving DecidableEq
def goodP (p : Part) : Bool :=
 decide (1 ≤ p.id ∧ p.id ≤ 30 ∧ -1099511627776 ≤ p.n ∧ p.n ≤ 1099511627776 ∧ p.s.size ≤ 20000) &&
  (decide (p.kind = 0 ∧ p.s.size = 0) || decide ((p.kind = 1 ∨ p.kind = 2) ∧ p.n = 0))
def sev (n : Nat) : List UInt8 :=
 if h : n < 128 then [UInt8.ofNat n] else UInt8.ofNat (n % 128 + 128) :: sev (n / 128)
 termination_by n
 decreasing_by omega
def zig (n : Int) : Nat := if n < 0 then (-2 * n - 1).toNat else (2 * n).toNat
def encP (p : Part) : List UInt8 :=
 sev (4 * p.id + p.kind).toNat ++ (if p.kind = 0 then sev (zig p.n) else sev p.s.size ++ bytes p.s)
def encL : List Part → List UInt8 → List UInt8 × Int
 | [], acc => (acc, 0)
 | p :: l, acc => if goodP p then (if 20000 < (acc ++ encP p).length then ([], 7) else encL l (acc ++ encP p)) else ([], 1)
theorem sev_lt {n : Nat} (h : n < 128) : sev n = [UInt8.ofNat n] := by rw [sev, dif_pos h]
theorem sev_ge {n : Nat} (h : ¬ n < 128) : sev n = UInt8.ofNat (n % 128 + 128) :: sev (n / 128) := by rw [sev, dif_neg h]
theorem sev_len (k : Nat) : ∀ n, n < 128 ^ (k + 1) → (sev n).length ≤ k + 1 := by
 induction k with
 | zero => intro n h; rw [sev_lt (by simpa using h)]; simp
 | succ k ih =>
  intro n h
  by_cases hn : n < 128
  ·rw [sev_lt hn]; simp
  ·rw [sev_ge hn]
   have : n / 128 < 128 ^ (k + 1) := by rw [Nat.pow_succ] at h; omega
   have := ih _ this
   simp; omega
theorem sev_len10 {n : Nat} (h : n < 18446744073709551616) : (sev n).length ≤ 10 :=
 sev_len 9 n (Nat.lt_of_lt_of_le h (by decide))
theorem zig_eq (n : Int) : (if n < 0 then -2 * n - 1 else 2 * n).toNat = zig n := by unfold zig; split <;> rfl
theorem zig_neg {n : Int} (h : n < 0) : zig n = (-2 * n - 1).toNat := by unfold zig; rw [if_pos h]
theorem zig_nn {n : Int} (h : 0 ≤ n) : zig n = (2 * n).toNat := by unfold zig; rw [if_neg (by omega)]
theorem sev_len6 {n : Nat} (h : n < 4398046511104) : (sev n).length ≤ 6 := sev_len 5 n (Nat.lt_of_lt_of_le h (by decide))
theorem encP_len (p : Part) (h : goodP p = true) : (encP p).length ≤ 20012 := by
 simp [goodP] at h
 have h1 : (sev (4 * p.id + p.kind).toNat).length ≤ 6 := sev_len6 (by omega)
 have h2 : (sev (zig p.n)).length ≤ 6 := sev_len6 (by unfold zig; split <;> omega)
 have h3 : (sev p.s.size).length ≤ 6 := sev_len6 (by omega)
 have h4 : (bytes p.s).length = p.s.size := rfl
 unfold encP
 rw [List.length_append]
 split
 ·omega
 ·rw [List.length_append]; omega
end Go.Proofs.YtihdnjnhhhafkaaGreatDoor
namespace Go.Proofs.YtihdnjnhhhafkaaGreatDoor
def hasS (l : List ByteArray) (x : ByteArray) : Bool := l.any fun y => decide (y = x)
def idxS (l : List ByteArray) (x : ByteArray) : Int := if hasS l x then ((l.findIdx fun y => decide (y = x) : Nat) : Int) else -1
theorem idxS_hit {l : List ByteArray} {x : ByteArray} {k : Nat} (hk : k < l.length) (h : l[k] = x) (hn : ∀ j (hj : j < k), l[j] ≠ x) : idxS l x = k := by
 have hm : hasS l x = true := List.any_eq_true.2 ⟨l[k], List.getElem_mem hk, by simpa using h⟩
 rw [idxS, if_pos hm]
 congr 1
 rw [List.findIdx_eq hk]
 exact ⟨by simpa using h, fun j hj => by simpa using hn j hj⟩
theorem idxS_none {l : List ByteArray} {x : ByteArray} (hn : ∀ j (hj : j < l.length), l[j] ≠ x) : idxS l x = -1 := by
 rw [idxS, if_neg]
 intro hm
 obtain ⟨y, hy, e⟩ := List.any_eq_true.1 hm
 obtain ⟨j, hj, rfl⟩ := List.getElem_of_mem hy
 exact hn j hj (by simpa using e)
theorem idxS_has (l : List ByteArray) (x : ByteArray) : decide (idxS l x ≥ 0) = hasS l x := by
 unfold idxS
 cases hasS l x <;> simp
def wordsL : List ByteArray := [⟨#[98, 111, 111, 108]⟩, ⟨#[101, 110, 117, 109]⟩, ⟨#[103, 111, 110, 101]⟩, ⟨#[105, 110, 116]⟩, ⟨#[109, 97, 110, 121]⟩, ⟨#[109, 97, 121, 98, 101]⟩, ⟨#[109, 101, 115, 115, 97, 103, 101]⟩, ⟨#[111, 110, 101]⟩, ⟨#[116, 101, 120, 116]⟩]
def namedF (s : ByteArray) : Bool := (bytes s).all (fun c => decide (97 ≤ c.toNat ∧ c.toNat ≤ 122)) && decide (1 ≤ s.size ∧ s.size ≤ 12) && !hasS wordsL s
def leastGo (rec : ByteArray → Nat) : List FieldD → Nat → Nat
 | [], n => n
 | f :: l, n => if f.rule = 1 then (if f.kind = 5 then (if rec f.type = 0 then 0 else leastGo rec l (n + rec f.type)) else leastGo rec l (n + 1)) else leastGo rec l n
def leastF (b : BookD) : Nat → ByteArray → Nat
 | 0, _ => 0
 | left + 1, name => match findT b name with
  | none => 0
  | some t => if t.enum = true ∨ 5 < t.fields.length then 0 else leastGo (leastF b left) t.fields 1
theorem leastGo_le {rec : ByteArray → Nat} {m : Nat} (hm : ∀ x, rec x ≤ m) (h1 : 1 ≤ m) : ∀ (l : List FieldD) (n : Nat), leastGo rec l n ≤ n + l.length * m
 | [], n => by simp [leastGo]
 | f :: l, n => by
  have e : (f :: l).length * m = l.length * m + m := by rw [List.length_cons, Nat.add_mul, Nat.one_mul]
  have hf := hm f.type
  have a := leastGo_le hm h1 l n
  have b := leastGo_le hm h1 l (n + 1)
  have c := leastGo_le hm h1 l (n + rec f.type)
  rw [leastGo, e]
  split
  ·split
   ·split <;> omega
   ·omega
  ·omega
theorem leastF_le (b : BookD) : ∀ (left : Nat) (name : ByteArray), leastF b left name ≤ 6 ^ left
 | 0, _ => by simp [leastF]
 | left + 1, name => by
  have hp : 1 ≤ 6 ^ left := Nat.pow_pos (by decide)
  rw [leastF, Nat.pow_succ]
  split
  ·exact Nat.zero_le _
  ·rename_i t _
   split
   ·exact Nat.zero_le _
   ·rename_i h
    have := leastGo_le (leastF_le b left) hp t.fields 1
    have h5 : t.fields.length * 6 ^ left ≤ 5 * 6 ^ left := Nat.mul_le_mul_right _ (by omega)
    omega
theorem leastF_216 (b : BookD) {left : Nat} (h : left ≤ 3) (name : ByteArray) : leastF b left name ≤ 216 :=
 Nat.le_trans (leastF_le b left name) (Nat.le_trans (Nat.pow_le_pow_right (by decide) h) (by decide))
def meansF (t : TypeD) (n : Int) : Bool := t.items.any fun x => decide (x.n = n)
def EnumP (t : TypeD) : Prop :=
 (∀ i (h : i < t.items.length), namedF t.items[i].name = true ∧ -1099511627776 ≤ t.items[i].n ∧ t.items[i].n ≤ 1099511627776 ∧ (∀ (_ : 0 < i), t.items[i - 1].n < t.items[i].n) ∧ ∀ j (_ : j < i), t.items[i].name ≠ t.items[j].name) ∧
  1 ≤ t.items.length ∧ t.items.length ≤ 6 ∧ t.fields.length = 0 ∧ t.gone.length = 0
instance (t : TypeD) : Decidable (EnumP t) := by unfold EnumP; infer_instance
def enumF (t : TypeD) : Bool := decide (EnumP t)
def kindP (b : BookD) (f : FieldD) : Prop := (f.kind < 4 → f.type.size = 0) ∧ (4 ≤ f.kind → (findT b f.type).isSome = true ∧ ((findT b f.type).getD .zero).enum = decide (f.kind = 4))
instance (b : BookD) (f : FieldD) : Decidable (kindP b f) := by unfold kindP; infer_instance
def fieldP (b : BookD) (f : FieldD) : Prop := namedF f.name = true ∧ 1 ≤ f.id ∧ f.id ≤ 30 ∧ 1 ≤ f.kind ∧ f.kind ≤ 5 ∧ 1 ≤ f.rule ∧ f.rule ≤ 3 ∧ kindP b f
instance (b : BookD) (f : FieldD) : Decidable (fieldP b f) := by unfold fieldP; infer_instance
def GoneP (t : TypeD) : Prop := ∀ i (h : i < t.gone.length), (fieldOf t t.gone[i]).isSome = false ∧ 1 ≤ t.gone[i] ∧ t.gone[i] ≤ 30 ∧ ∀ (_ : 0 < i), t.gone[i - 1] < t.gone[i]
instance (t : TypeD) : Decidable (GoneP t) := by unfold GoneP; infer_instance
def FieldsP (b : BookD) (t : TypeD) : Prop := ∀ i (h : i < t.fields.length), fieldP b t.fields[i] ∧ (∀ (_ : 0 < i), t.fields[i - 1].id < t.fields[i].id) ∧ ∀ j (_ : j < i), t.fields[i].name ≠ t.fields[j].name
instance (b : BookD) (t : TypeD) : Decidable (FieldsP b t) := by unfold FieldsP; infer_instance
def MessageP (b : BookD) (t : TypeD) : Prop := t.fields.length ≤ 5 ∧ t.items.length = 0 ∧ t.gone.length ≤ 30 ∧ GoneP t ∧ FieldsP b t
instance (b : BookD) (t : TypeD) : Decidable (MessageP b t) := by unfold MessageP; infer_instance
def messageF (b : BookD) (t : TypeD) : Bool := decide (MessageP b t)
def ltS (a b : ByteArray) : Prop := Op.bytesLess a.toList b.toList = true
instance (a b : ByteArray) : Decidable (ltS a b) := by unfold ltS; infer_instance
def TypesP (b : BookD) : Prop := ∀ i (h : i < b.length), namedF b[i].name = true ∧ (∀ (_ : 0 < i), ltS b[i - 1].name b[i].name) ∧ (if b[i].enum = true then enumF b[i] = true else messageF b b[i] = true)
instance (b : BookD) : Decidable (TypesP b) := by unfold TypesP; infer_instance
def LeastP (b : BookD) : Prop := ∀ i (h : i < b.length), b[i].enum = false → 1 ≤ leastF b 4 b[i].name ∧ leastF b 4 b[i].name ≤ 12
instance (b : BookD) : Decidable (LeastP b) := by unfold LeastP; infer_instance
def goodF (b : BookD) : Int := if 4 < b.length then 7 else if ¬ TypesP b then 1 else if ¬ LeastP b then 7 else 0
end Go.Proofs.YtihdnjnhhhafkaaGreatDoor
namespace Go.Proofs.YtihdnjnhhhafkaaGreatDoor
def getGo (s : List UInt8) : Nat → Nat → Nat → Nat × Nat × Bool
 | 0, _, _ => (0, 0, true)
 | f + 1, i, n =>
  if h : i < s.length then
   if s[i].toNat < 128 then (n + s[i].toNat * 128 ^ i, i + 1, decide (s[i].toNat = 0 ∧ 0 < i))
   else getGo s f (i + 1) (n + (s[i].toNat % 128) * 128 ^ i)
  else (0, 0, true)
def getF (s : List UInt8) : Nat × Nat × Bool := getGo s 6 0 0
def zag (n : Nat) : Int := if n % 2 = 0 then (n / 2 : Nat) else -(((n + 1) / 2 : Nat) : Int)
def stepD (s : List UInt8) : Option (Part × List UInt8) :=
 let (key, m1, b1) := getF s
 let s1 := s.drop m1
 let (n, m2, b2) := getF s1
 let s2 := s1.drop m2
 if b1 ∨ b2 then none
 else if key % 4 = 0 then
  let p : Part := ⟨key / 4, 0, zag n, ⟨#[]⟩⟩
  if goodP p then some (p, s2) else none
 else if n ≤ s2.length then
  let p : Part := ⟨key / 4, key % 4, 0, ⟨(s2.take n).toArray⟩⟩
  if goodP p then some (p, s2.drop n) else none
 else none
def decL : Nat → List UInt8 → List Part → List Part × Int
 | 0, _, acc => (acc, 0)
 | f + 1, s, acc => if s = [] then (acc, 0) else match stepD s with
  | none => ([], 1)
  | some (p, s') => decL f s' (acc ++ [p])
def decF (s : List UInt8) : List Part × Int := if 20000 < s.length then ([], 7) else decL s.length s []
theorem getGo_hit {s : List UInt8} {k n : Nat} (h6 : k < 6) (h : k < s.length) (hc : s[k].toNat < 128) : getGo s (6 - k) k n = (n + s[k].toNat * 128 ^ k, k + 1, decide (s[k].toNat = 0 ∧ 0 < k)) := by
 rw [show 6 - k = (5 - k) + 1 from by omega, getGo, dif_pos h, if_pos hc]
theorem getGo_on {s : List UInt8} {k n : Nat} (h6 : k < 6) (h : k < s.length) (hc : ¬ s[k].toNat < 128) : getGo s (6 - k) k n = getGo s (6 - (k + 1)) (k + 1) (n + (s[k].toNat % 128) * 128 ^ k) := by
 rw [show 6 - k = (5 - k) + 1 from by omega, getGo, dif_pos h, if_neg hc, show 6 - (k + 1) = 5 - k from by omega]
theorem getGo_end {s : List UInt8} {k n : Nat} (hk : k ≤ 6) (h : ¬ (k < 6 ∧ k < s.length)) : getGo s (6 - k) k n = (0, 0, true) := by
 by_cases h6 : k < 6
 ·rw [show 6 - k = (5 - k) + 1 from by omega, getGo, dif_neg (by omega)]
 ·rw [show 6 - k = 0 from by omega, getGo]
theorem getGo_lt (s : List UInt8) : ∀ (f i n : Nat), n < 128 ^ i → (getGo s f i n).1 < 128 ^ (i + f)
 | 0, i, n, h => by simp [getGo]; exact Nat.pow_pos (by decide)
 | f + 1, i, n, h => by
  have hp : 0 < 128 ^ i := Nat.pow_pos (by decide)
  have hm : 128 ^ (i + 1) = 128 * 128 ^ i := by rw [Nat.pow_succ, Nat.mul_comm]
  have hle : 128 ^ (i + 1) ≤ 128 ^ (i + (f + 1)) := Nat.pow_le_pow_right (by decide) (by omega)
  rw [getGo]
  split
  ·split
   ·rename_i h1 h2
    have : s[i].toNat * 128 ^ i ≤ 127 * 128 ^ i := Nat.mul_le_mul_right _ (by omega)
    simp only
    omega
   ·rename_i h1 h2
    have h3 : (s[i].toNat % 128) * 128 ^ i ≤ 127 * 128 ^ i := Nat.mul_le_mul_right _ (by omega)
    have := getGo_lt s f (i + 1) (n + (s[i].toNat % 128) * 128 ^ i) (by omega)
    rw [show i + (f + 1) = i + 1 + f from by omega]
    exact this
  ·exact Nat.pow_pos (by decide)
theorem getF_lt (s : List UInt8) : (getF s).1 < 4398046511104 := getGo_lt s 6 0 0 (by decide)
theorem getGo_len (s : List UInt8) : ∀ (f i n : Nat), (getGo s f i n).2.1 ≤ s.length
 | 0, i, n => by simp [getGo]
 | f + 1, i, n => by
  rw [getGo]
  split
  ·split
   ·simp only; omega
   ·exact getGo_len s f _ _
  ·simp
theorem getF_len (s : List UInt8) : (getF s).2.1 ≤ s.length := getGo_len s 6 0 0
theorem getGo_bad (s : List UInt8) : ∀ (f i n : Nat), (getGo s f i n).2.2 = false → 0 < (getGo s f i n).2.1
 | 0, i, n => by simp [getGo]
 | f + 1, i, n => by
  rw [getGo]
  split
  ·split
   ·intro _; simp only; omega
   ·exact getGo_bad s f _ _
  ·simp
theorem getF_bad (s : List UInt8) : (getF s).2.2 = false → 0 < (getF s).2.1 := getGo_bad s 6 0 0
theorem stepD_eq {s : List UInt8} {key m1 n m2 : Nat} {b1 b2 : Bool} (h1 : getF s = (key, m1, b1)) (h2 : getF (s.drop m1) = (n, m2, b2)) :
  stepD s = if b1 = true ∨ b2 = true then none
   else if key % 4 = 0 then (if goodP ⟨key / 4, 0, zag n, ⟨#[]⟩⟩ then some (⟨key / 4, 0, zag n, ⟨#[]⟩⟩, (s.drop m1).drop m2) else none)
   else if n ≤ ((s.drop m1).drop m2).length then
    (if goodP ⟨key / 4, key % 4, 0, ⟨(((s.drop m1).drop m2).take n).toArray⟩⟩ then some (⟨key / 4, key % 4, 0, ⟨(((s.drop m1).drop m2).take n).toArray⟩⟩, ((s.drop m1).drop m2).drop n) else none)
   else none := by
 unfold stepD
 rw [h1]
 simp only
 rw [h2]
theorem zag_even {n : Nat} (h : n % 2 = 0) : zag n = (n : Int) / 2 := by unfold zag; rw [if_pos h]; omega
theorem zag_odd {n : Nat} (h : ¬ n % 2 = 0) : zag n = -((n : Int) / 2) - 1 := by unfold zag; rw [if_neg h]; omega
theorem stepD_len {s s' : List UInt8} {p : Part} (h : stepD s = some (p, s')) : s'.length < s.length := by
 unfold stepD at h
 have h1 := getF_bad s
 have h2 := getF_len s
 revert h
 generalize getF s = r1 at *
 obtain ⟨key, m1, b1⟩ := r1
 simp only at *
 generalize getF (s.drop m1) = r2
 obtain ⟨n, m2, b2⟩ := r2
 simp only
 intro h
 by_cases hb : b1 = true ∨ b2 = true
 ·rw [if_pos hb] at h; cases h
 ·rw [if_neg hb] at h
  have hb1 : b1 = false := by cases b1 <;> simp_all
  have := h1 hb1
  split at h
  ·split at h
   ·injection h with h; injection h with _ h; subst h; simp; omega
   ·cases h
  ·split at h
   ·split at h
    ·injection h with h; injection h with _ h; subst h; simp; omega
    ·cases h
   ·cases h
theorem decL_nil (f : Nat) (acc : List Part) : decL f [] acc = (acc, 0) := by cases f <;> simp [decL]
theorem decL_any : ∀ (f g : Nat) (s : List UInt8) (acc : List Part), s.length ≤ f → s.length ≤ g → decL f s acc = decL g s acc := by
 intro f
 induction f with
 | zero =>
  intro g s acc h _
  have : s = [] := List.eq_nil_of_length_eq_zero (by omega)
  subst this; rw [decL_nil, decL_nil]
 | succ f ih =>
  intro g s acc h h'
  by_cases hs : s = []
  ·subst hs; rw [decL_nil, decL_nil]
  ·obtain ⟨g', rfl⟩ : ∃ g', g = g' + 1 := ⟨g - 1, by have := List.length_pos_iff.2 hs; omega⟩
   rw [decL, decL, if_neg hs, if_neg hs]
   cases hst : stepD s with
   | none => rfl
   | some r =>
    obtain ⟨p, s'⟩ := r
    have := stepD_len hst
    exact ih g' s' _ (by omega) (by omega)
theorem decL_on {s s' : List UInt8} {p : Part} {acc : List Part} (hs : s ≠ []) (h : stepD s = some (p, s')) : decL s.length s acc = decL s'.length s' (acc ++ [p]) := by
 obtain ⟨g, hg⟩ : ∃ g, s.length = g + 1 := ⟨s.length - 1, by have := List.length_pos_iff.2 hs; omega⟩
 rw [hg, decL, if_neg hs, h]
 have := stepD_len h
 exact decL_any _ _ _ _ (by omega) (by omega)
theorem decL_stop {s : List UInt8} {acc : List Part} (hs : s ≠ []) (h : stepD s = none) : decL s.length s acc = ([], 1) := by
 obtain ⟨g, hg⟩ : ∃ g, s.length = g + 1 := ⟨s.length - 1, by have := List.length_pos_iff.2 hs; omega⟩
 rw [hg, decL, if_neg hs, h]
end Go.Proofs.YtihdnjnhhhafkaaGreatDoor
namespace Go.Proofs.YtihdnjnhhhafkaaGreatDoor
theorem u8_back (c : UInt8) (h : ¬ c.toNat < 128) : UInt8.ofNat (c.toNat % 128 + 128) = c := by
 have := c.toNat_lt
 apply UInt8.toNat_inj.1
 rw [UInt8.toNat_ofNat']
 omega
theorem sev_ne (n : Nat) : sev n ≠ [] := by
 by_cases h : n < 128
 ·rw [sev_lt h]; simp
 ·rw [sev_ge h]; simp
theorem drop_head {s : List UInt8} {i : Nat} {c : UInt8} {r : List UInt8} (h : s.drop i = c :: r) : ∃ hi : i < s.length, s[i] = c ∧ s.drop (i + 1) = r := by
 have hi : i < s.length := by
  rcases Nat.lt_or_ge i s.length with h' | h'
  ·exact h'
  ·rw [List.drop_eq_nil_of_le h'] at h; cases h
 rw [List.drop_eq_getElem_cons hi] at h
 injection h with h1 h2
 exact ⟨hi, h1, h2⟩
theorem getGo_sev (s : List UInt8) : ∀ (f i n x : Nat) (rest : List UInt8), 0 < f → x < 128 ^ f → s.drop i = sev x ++ rest → getGo s f i n = (n + x * 128 ^ i, i + (sev x).length, decide (x = 0 ∧ 0 < i))
 | 0, _, _, _, _, h, _, _ => absurd h (by omega)
 | f + 1, i, n, x, rest, _, hx, hd => by
  by_cases h : x < 128
  ·rw [sev_lt h] at hd ⊢
   obtain ⟨hi, hc, _⟩ := drop_head hd
   have ht : s[i].toNat = x := by rw [hc, UInt8.toNat_ofNat']; omega
   rw [getGo, dif_pos hi, if_pos (by rw [ht]; exact h), ht]; rfl
  ·rw [sev_ge h] at hd ⊢
   obtain ⟨hi, hc, hr⟩ := drop_head hd
   have ht : s[i].toNat = x % 128 + 128 := by rw [hc, UInt8.toNat_ofNat']; omega
   have hf : 0 < f := by
    rcases Nat.eq_zero_or_pos f with h0 | h0
    ·subst h0; simp at hx; omega
    ·exact h0
   have hx' : x / 128 < 128 ^ f := by rw [Nat.pow_succ] at hx; omega
   rw [getGo, dif_pos hi, if_neg (by rw [ht]; omega), getGo_sev s f (i + 1) _ (x / 128) rest hf hx' hr]
   have e1 : s[i].toNat % 128 = x % 128 := by rw [ht]; omega
   have e2 : n + s[i].toNat % 128 * 128 ^ i + x / 128 * 128 ^ (i + 1) = n + x * 128 ^ i := by
    rw [e1, Nat.pow_succ]
    have : x * 128 ^ i = (x % 128 + 128 * (x / 128)) * 128 ^ i := by rw [Nat.mod_add_div]
    rw [this, Nat.add_mul, ← Nat.mul_assoc, Nat.mul_comm (x / 128 * 128 ^ i) 128, ← Nat.mul_assoc, Nat.add_assoc]
   rw [e2]
   have e3 : decide (x / 128 = 0 ∧ 0 < i + 1) = false := by simp; omega
   have e4 : decide (x = 0 ∧ 0 < i) = false := by simp; omega
   rw [e3, e4, List.length_cons]
   congr 2; omega
theorem getF_sev {s : List UInt8} {x : Nat} {rest : List UInt8} (hx : x < 4398046511104) (h : s = sev x ++ rest) : getF s = (x, (sev x).length, false) := by
 have := getGo_sev s 6 0 0 x rest (by decide) hx (by simpa using h)
 rw [getF, this]; simp
theorem getGo_only (s : List UInt8) : ∀ (f i n r m : Nat), getGo s f i n = (r, m, false) → ∃ x, r = n + x * 128 ^ i ∧ s.drop i = sev x ++ s.drop m ∧ i < m ∧ (i = 0 ∨ x ≠ 0)
 | 0, i, n, r, m, h => by simp [getGo] at h
 | f + 1, i, n, r, m, h => by
  rw [getGo] at h
  split at h
  ·rename_i hi
   split at h
   ·rename_i hc
    simp only [Prod.mk.injEq, decide_eq_false_iff_not] at h
    obtain ⟨rfl, rfl, hb⟩ := h
    refine ⟨s[i].toNat, rfl, ?_, by omega, by omega⟩
    rw [sev_lt hc, List.drop_eq_getElem_cons hi]
    simp
   ·rename_i hc
    obtain ⟨x, hr, hd, hm, hx⟩ := getGo_only s f (i + 1) _ r m h
    have hx0 : x ≠ 0 := by omega
    refine ⟨s[i].toNat % 128 + 128 * x, ?_, ?_, by omega, by omega⟩
    ·rw [hr, Nat.pow_succ, Nat.add_mul, ← Nat.mul_assoc, Nat.mul_comm (x * 128 ^ i) 128, ← Nat.mul_assoc, Nat.add_assoc]
    ·have h1 : ¬ (s[i].toNat % 128 + 128 * x) < 128 := by omega
     rw [sev_ge h1, List.drop_eq_getElem_cons hi, hd]
     have e1 : (s[i].toNat % 128 + 128 * x) % 128 = s[i].toNat % 128 := by omega
     have e2 : (s[i].toNat % 128 + 128 * x) / 128 = x := by omega
     rw [e1, e2, u8_back _ hc]; rfl
  ·simp at h
theorem getF_only {s : List UInt8} {r m : Nat} (h : getF s = (r, m, false)) : s = sev r ++ s.drop m ∧ 0 < m := by
 obtain ⟨x, hr, hd, hm, _⟩ := getGo_only s 6 0 0 r m h
 have : r = x := by simpa using hr
 subst this
 exact ⟨by simpa using hd, hm⟩
theorem zag_zig (n : Int) : zag (zig n) = n := by
 by_cases h : n < 0
 ·rw [zig_neg h, zag_odd (by omega)]; omega
 ·rw [zig_nn (by omega), zag_even (by omega)]; omega
theorem zig_zag (n : Nat) : zig (zag n) = n := by
 by_cases h : n % 2 = 0
 ·rw [zag_even h, zig_nn (by omega)]; omega
 ·rw [zag_odd h, zig_neg (by omega)]; omega
theorem good_bounds {p : Part} (h : goodP p = true) : 1 ≤ p.id ∧ p.id ≤ 30 ∧ 0 ≤ p.kind ∧ p.kind ≤ 2 ∧ -1099511627776 ≤ p.n ∧ p.n ≤ 1099511627776 ∧ p.s.size ≤ 20000 ∧ (p.kind = 0 → p.s.size = 0) ∧ (p.kind ≠ 0 → p.n = 0) := by
 simp only [goodP, Bool.and_eq_true, Bool.or_eq_true, decide_eq_true_eq] at h
 omega
theorem stepD_enc {p : Part} (hg : goodP p = true) (rest : List UInt8) : stepD (encP p ++ rest) = some (p, rest) := by
 obtain ⟨i1, i2, k1, k2, n1, n2, s1, h0, hn⟩ := good_bounds hg
 obtain ⟨id, kind, n, s⟩ := p
 simp only at *
 have hkl : (4 * id + kind).toNat < 4398046511104 := by omega
 by_cases hk : kind = 0
 ·subst hk
  have hzl : zig n < 4398046511104 := by unfold zig; split <;> omega
  have he : encP ⟨id, 0, n, s⟩ ++ rest = sev (4 * id + 0).toNat ++ (sev (zig n) ++ rest) := by rw [encP, if_pos rfl, List.append_assoc]
  have g1 := getF_sev hkl he
  have hd : (encP ⟨id, 0, n, s⟩ ++ rest).drop (sev (4 * id + 0).toNat).length = sev (zig n) ++ rest := by rw [he, List.drop_left]
  have g2 := getF_sev hzl hd
  rw [stepD_eq g1 g2, if_neg (by simp), if_pos (by omega), hd, List.drop_left, zag_zig]
  have hs : s = ⟨#[]⟩ := ba_of (List.eq_nil_of_length_eq_zero (h0 rfl))
  have hi : (((4 * id + 0).toNat : Nat) : Int) / 4 = id := by omega
  rw [hi, ← hs, if_pos hg]
 ·have hsl : s.size < 4398046511104 := by omega
  have hn0 : n = 0 := hn hk
  subst hn0
  have he : encP ⟨id, kind, 0, s⟩ ++ rest = sev (4 * id + kind).toNat ++ (sev s.size ++ (bytes s ++ rest)) := by
   rw [encP, if_neg hk]; simp [List.append_assoc]
  have g1 := getF_sev hkl he
  have hd : (encP ⟨id, kind, 0, s⟩ ++ rest).drop (sev (4 * id + kind).toNat).length = sev s.size ++ (bytes s ++ rest) := by rw [he, List.drop_left]
  have g2 := getF_sev hsl hd
  have hl : s.size = (bytes s).length := rfl
  rw [stepD_eq g1 g2, if_neg (by simp), if_neg (by omega), hd, List.drop_left, if_pos (by rw [List.length_append]; omega), hl, List.take_left, List.drop_left]
  have hi : (((4 * id + kind).toNat : Nat) : Int) / 4 = id := by omega
  have hm : (((4 * id + kind).toNat : Nat) : Int) % 4 = kind := by omega
  have hs : (⟨(bytes s).toArray⟩ : ByteArray) = s := (ba_of rfl).symm
  rw [hi, hm, hs, if_pos hg]
theorem stepD_only {s s' : List UInt8} {p : Part} (h : stepD s = some (p, s')) : goodP p = true ∧ s = encP p ++ s' := by
 obtain ⟨key, m1, b1, g1⟩ : ∃ k m b, getF s = (k, m, b) := ⟨_, _, _, rfl⟩
 obtain ⟨n, m2, b2, g2⟩ : ∃ k m b, getF (s.drop m1) = (k, m, b) := ⟨_, _, _, rfl⟩
 rw [stepD_eq g1 g2] at h
 by_cases hb : b1 = true ∨ b2 = true
 ·rw [if_pos hb] at h; cases h
 rw [if_neg hb] at h
 have hb1 : b1 = false := by cases b1 <;> simp_all
 have hb2 : b2 = false := by cases b2 <;> simp_all
 subst hb1 hb2
 obtain ⟨e1, _⟩ := getF_only g1
 obtain ⟨e2, _⟩ := getF_only g2
 by_cases hk : key % 4 = 0
 ·rw [if_pos hk] at h
  split at h
  ·rename_i hg
   injection h with h
   injection h with hp hs
   subst hp
   refine ⟨hg, ?_⟩
   subst hs
   have ek : (4 * ((key : Int) / 4) + 0).toNat = key := by omega
   rw [encP, if_pos rfl, zig_zag, ek, List.append_assoc, ← e2]
   exact e1
  ·cases h
 ·rw [if_neg hk] at h
  split at h
  ·rename_i hn
   split at h
   ·rename_i hg
    injection h with h
    injection h with hp hs
    subst hp
    refine ⟨hg, ?_⟩
    subst hs
    have ek : (4 * ((key : Int) / 4) + (key : Int) % 4).toNat = key := by omega
    have hz : ¬ ((key : Int) % 4) = 0 := by omega
    have hsz : (⟨(((s.drop m1).drop m2).take n).toArray⟩ : ByteArray).size = n := by
     show (((s.drop m1).drop m2).take n).toArray.size = n
     simp at hn ⊢; omega
    rw [encP, if_neg hz, ek, hsz, bytes_of, List.append_assoc, List.append_assoc, List.take_append_drop, ← e2]
    exact e1
   ·cases h
  ·cases h
theorem encL_ok : ∀ (l : List Part) (acc r : List UInt8), encL l acc = (r, 0) → r = acc ++ l.flatMap encP ∧ (∀ p ∈ l, goodP p = true) ∧ (l ≠ [] → r.length ≤ 20000)
 | [], acc, r, h => by simp [encL] at h; simp [h]
 | p :: l, acc, r, h => by
  rw [encL] at h
  by_cases hg : goodP p = true
  ·rw [if_pos hg] at h
   by_cases hl : 20000 < (acc ++ encP p).length
   ·rw [if_pos hl] at h; simp at h
   ·rw [if_neg hl] at h
    obtain ⟨h1, h2, h3⟩ := encL_ok l _ _ h
    refine ⟨by rw [h1]; simp, fun q hq => ?_, fun _ => ?_⟩
    ·rcases List.mem_cons.1 hq with rfl | h
     ·exact hg
     ·exact h2 q h
    ·by_cases hn : l = []
     ·subst hn; rw [h1]; simp at hl ⊢; omega
     ·exact h3 hn
  ·rw [if_neg hg] at h; simp at h
theorem decL_flat : ∀ (l : List Part) (acc : List Part), (∀ p ∈ l, goodP p = true) → decL (l.flatMap encP).length (l.flatMap encP) acc = (acc ++ l, 0)
 | [], acc, _ => by simp [decL]
 | p :: l, acc, h => by
  have hne : (p :: l).flatMap encP ≠ [] := by
   rw [List.flatMap_cons]
   intro h
   have h1 := (List.append_eq_nil_iff.1 h).1
   unfold encP at h1
   exact sev_ne _ (List.append_eq_nil_iff.1 h1).1
  have hst := stepD_enc (h p (by simp)) (l.flatMap encP)
  rw [← List.flatMap_cons] at hst
  rw [decL_on hne hst, decL_flat l _ (fun q hq => h q (by simp [hq]))]
  simp
theorem wire_back {l : List Part} {r : List UInt8} (h : encL l [] = (r, 0)) : decF r = (l, 0) := by
 obtain ⟨h1, h2, h3⟩ := encL_ok l [] r h
 simp at h1
 have hl : ¬ 20000 < r.length := by
  by_cases hn : l = []
  ·subst hn; subst h1; simp
  ·have := h3 hn; omega
 rw [decF, if_neg hl, h1, decL_flat l [] h2]; rfl
theorem decL_only : ∀ (f : Nat) (s : List UInt8) (acc l : List Part), decL f s acc = (l, 0) → s.length ≤ f → ∃ l', l = acc ++ l' ∧ s = l'.flatMap encP ∧ ∀ p ∈ l', goodP p = true
 | 0, s, acc, l, h, hs => by
  have : s = [] := List.eq_nil_of_length_eq_zero (by omega)
  subst this
  simp [decL] at h
  exact ⟨[], by simp [h], by simp, by simp⟩
 | f + 1, s, acc, l, h, hs => by
  rw [decL] at h
  by_cases hn : s = []
  ·rw [if_pos hn] at h
   simp at h
   exact ⟨[], by simp [h], by simp [hn], by simp⟩
  ·rw [if_neg hn] at h
   cases hst : stepD s with
   | none => rw [hst] at h; simp at h
   | some r =>
    obtain ⟨p, s'⟩ := r
    rw [hst] at h
    have hl := stepD_len hst
    obtain ⟨hg, he⟩ := stepD_only hst
    obtain ⟨l', h1, h2, h3⟩ := decL_only f s' _ l h (by omega)
    refine ⟨p :: l', by simp [h1], by rw [List.flatMap_cons, ← h2]; exact he, fun q hq => ?_⟩
    rcases List.mem_cons.1 hq with rfl | h
    ·exact hg
    ·exact h3 q h
theorem encL_flat : ∀ (l : List Part) (acc : List UInt8), (∀ p ∈ l, goodP p = true) → (acc ++ l.flatMap encP).length ≤ 20000 → encL l acc = (acc ++ l.flatMap encP, 0)
 | [], acc, _, _ => by simp [encL]
 | p :: l, acc, h, hl => by
  have hl' : ¬ 20000 < (acc ++ encP p).length := by
   rw [List.flatMap_cons, ← List.append_assoc, List.length_append] at hl; omega
  rw [encL, if_pos (h p (by simp)), if_neg hl', encL_flat l _ (fun q hq => h q (by simp [hq])) (by rw [List.flatMap_cons, ← List.append_assoc] at hl; exact hl)]
  simp
theorem wire_only {s : List UInt8} {l : List Part} (h : decF s = (l, 0)) : encL l [] = (s, 0) := by
 unfold decF at h
 by_cases hl : 20000 < s.length
 ·rw [if_pos hl] at h; simp at h
 ·rw [if_neg hl] at h
  obtain ⟨l', h1, h2, h3⟩ := decL_only _ s [] l h (Nat.le_refl _)
  simp at h1
  subst h1
  rw [encL_flat l [] h3 (by rw [← h2]; simp; omega), ← h2]; rfl
theorem decF_code (s : List UInt8) : (decF s).2 ≠ 0 → (decF s).1 = [] := by
 unfold decF
 split
 ·intro _; rfl
 ·have : ∀ (f : Nat) (s : List UInt8) (acc : List Part), (decL f s acc).2 ≠ 0 → (decL f s acc).1 = [] := by
   intro f
   induction f with
   | zero => intro s acc h; simp [decL] at h
   | succ f ih =>
    intro s acc h
    rw [decL] at h ⊢
    by_cases hn : s = []
    ·rw [if_pos hn] at h; simp at h
    ·rw [if_neg hn] at h ⊢
     cases hst : stepD s with
     | none => rfl
     | some r => rw [hst] at h; exact ih _ _ h
  exact this _ _ _
theorem encL_code : ∀ (l : List Part) (acc : List UInt8), (encL l acc).2 ≠ 0 → (encL l acc).1 = []
 | [], acc, h => by simp [encL] at h
 | p :: l, acc, h => by
  rw [encL] at h ⊢
  by_cases hg : goodP p = true
  ·rw [if_pos hg] at h ⊢
   split
   ·rfl
   ·rename_i hl
    rw [if_neg hl] at h
    exact encL_code l _ h
  ·rw [if_neg hg]
end Go.Proofs.YtihdnjnhhhafkaaGreatDoor
namespace Go.Proofs.YtihdnjnhhhafkaaGreatDoor
inductive ValueD where
 | mk (kind n : Int) (s : ByteArray) (ids : List Int) (l : List ValueD)
namespace ValueD
def kind : ValueD → Int | mk k _ _ _ _ => k
def n : ValueD → Int | mk _ n _ _ _ => n
def s : ValueD → ByteArray | mk _ _ s _ _ => s
def ids : ValueD → List Int | mk _ _ _ i _ => i
def l : ValueD → List ValueD | mk _ _ _ _ l => l
def zero : ValueD := mk 0 0 ⟨#[]⟩ [] []
end ValueD
def msgV (ids : List Int) (l : List ValueD) : ValueD := .mk 2 0 ⟨#[]⟩ ids l
def plainF (s : ByteArray) : Bool := (bytes s).all (fun c => decide (c.toNat < 128)) && decide (s.size ≤ 40)
mutual
def depthV : ValueD → Nat
 | .mk _ _ _ _ l => depthL l + 1
def depthL : List ValueD → Nat
 | [] => 0
 | x :: l => max (depthV x) (depthL l)
end
mutual
def countV : ValueD → Nat
 | .mk _ _ _ _ l => countL l + 1
def countL : List ValueD → Nat
 | [] => 0
 | x :: l => countV x + countL l
end
def smallF (v : ValueD) : Bool := decide (depthV v ≤ 24 ∧ countV v ≤ 400)
def kindOf (k : Int) : Int := if k = 3 then 1 else if k = 5 then 2 else 0
def oddF (v : ValueD) : Bool := decide ((v.kind ≠ 2 ∧ 0 < v.ids.length + v.l.length) ∨ (v.kind ≠ 0 ∧ v.n ≠ 0) ∨ (v.kind ≠ 1 ∧ v.s.size ≠ 0))
def fitsF (b : BookD) (f : FieldD) (v : ValueD) : Int :=
 if v.kind ≠ kindOf f.kind then 5
 else if oddF v = true then 1
 else if f.kind = 1 then (if v.n = 0 ∨ v.n = 1 then 0 else 6)
 else if f.kind = 2 then (if v.n < -1099511627776 ∨ 1099511627776 < v.n then 2 else 0)
 else if f.kind = 3 then (if plainF v.s = true then 0 else 1)
 else if f.kind = 4 then (if meansF ((findT b f.type).getD .zero) v.n = true then 0 else 6)
 else 0
def hasI (l : List Int) (n : Int) : Bool := l.any fun m => decide (m = n)
def typeOf (b : BookD) (name : ByteArray) : TypeD := (findT b name).getD .zero
def fullF (t : TypeD) (ids : List Int) : Bool := t.fields.all fun f => decide (f.rule ≠ 1) || hasI ids f.id
def placeF (t : TypeD) (last : Option Int) (id : Int) : Int := match fieldOf t id with
 | none => 3
 | some f => match last with
  | none => 0
  | some k => if id < k then 1 else if k = id ∧ f.rule ≠ 3 then 4 else 0
mutual
def typedF (b : BookD) : TypeD → ValueD → Int
 | t, .mk kind n s ids l =>
  if kind ≠ 2 then 5 else if ids.length ≠ l.length ∨ n ≠ 0 ∨ s.size ≠ 0 then 1
  else if typedGo b t none ids l ≠ 0 then typedGo b t none ids l
  else if fullF t ids = true then 0 else 3
def typedGo (b : BookD) : TypeD → Option Int → List Int → List ValueD → Int
 | _, _, _, [] => 0
 | t, last, ids, x :: l => match ids with
  | [] => 0
  | id :: ids =>
   if placeF t last id ≠ 0 then placeF t last id
   else if fitsF b ((fieldOf t id).getD .zero) x ≠ 0 then fitsF b ((fieldOf t id).getD .zero) x
   else if ((fieldOf t id).getD .zero).kind = 5 ∧ typedF b (typeOf b ((fieldOf t id).getD .zero).type) x ≠ 0 then typedF b (typeOf b ((fieldOf t id).getD .zero).type) x
   else typedGo b t (some id) ids l
end
def noneB (b : BookD) (name : ByteArray) : Bool := match findT b name with | none => true | some t => t.enum
def TypedF (b : BookD) (name : ByteArray) (v : ValueD) : Int :=
 if goodF b ≠ 0 then 1 else if noneB b name = true then 3 else if smallF v = false then 7 else typedF b (typeOf b name) v
def leastOfF (b : BookD) (k : Nat) (f : FieldD) : ValueD :=
 if f.kind = 3 then .mk 1 0 ⟨#[]⟩ [] []
 else if f.kind = 4 then .mk 0 (((typeOf b f.type).items.head?.map (·.n)).getD 0) ⟨#[]⟩ [] []
 else if f.kind = 5 then match k with
  | 0 => .zero
  | k + 1 => msgV (((typeOf b f.type).fields.filter fun g => decide (g.rule = 1)).map (·.id)) (((typeOf b f.type).fields.filter fun g => decide (g.rule = 1)).map (leastOfF b k))
 else .zero
def leastTF (b : BookD) (k : Nat) (t : TypeD) : ValueD := msgV ((t.fields.filter fun g => decide (g.rule = 1)).map (·.id)) ((t.fields.filter fun g => decide (g.rule = 1)).map (leastOfF b k))
def partOf (id : Int) (x : ValueD) (inner : List UInt8) : Part := ⟨id, x.kind, x.n, if x.kind = 2 then ⟨inner.toArray⟩ else x.s⟩
mutual
def encV : ValueD → List UInt8 × Int
 | .mk _ _ _ ids l => if (partsGo ids l []).2 ≠ 0 then ([], (partsGo ids l []).2) else encL (partsGo ids l []).1 []
def partsGo : List Int → List ValueD → List Part → List Part × Int
 | _, [], acc => (acc, 0)
 | ids, x :: l, acc => match ids with
  | [] => (acc, 0)
  | id :: ids => if x.kind = 2 ∧ (encV x).2 ≠ 0 then ([], (encV x).2) else partsGo ids l (acc ++ [partOf id x (encV x).1])
end
def EncodeF (b : BookD) (name : ByteArray) (v : ValueD) : List UInt8 × Int := if TypedF b name v ≠ 0 then ([], TypedF b name v) else encV v
def filledGo (b : BookD) (k : Nat) (ids : List Int) (l : List ValueD) (f : FieldD) : List (Int × ValueD) :=
 (if f.rule = 1 ∧ hasI ids f.id = false then [(f.id, leastOfF b k f)] else []) ++ (ids.zip l).filter fun p => decide (p.1 = f.id)
def filledF (b : BookD) (k : Nat) (t : TypeD) (ids : List Int) (l : List ValueD) : ValueD :=
 msgV ((t.fields.flatMap (filledGo b k ids l)).map (·.1)) ((t.fields.flatMap (filledGo b k ids l)).map (·.2))
def bareV (p : Part) : ValueD := .mk p.kind p.n (if p.kind = 1 then p.s else ⟨#[]⟩) [] []
def fallsF (last : Option Int) (id : Int) : Bool := match last with | none => false | some k => decide (id < k)
def decGo (b : BookD) (rec : TypeD → List UInt8 → ValueD × Int) (t : TypeD) : Option Int → List Part → List Int → List ValueD → (List Int × List ValueD) × Int
 | _, [], ids, l => ((ids, l), 0)
 | last, p :: ps, ids, l =>
  if fallsF last p.id = true then (([], []), 1)
  else match fieldOf t p.id with
   | none => decGo b rec t (some p.id) ps ids l
   | some f =>
    if fitsF b f (bareV p) ≠ 0 then (([], []), fitsF b f (bareV p))
    else if f.rule ≠ 3 ∧ hasI ids p.id = true then (([], []), 4)
    else if f.kind = 5 then
     (if (rec (typeOf b f.type) (bytes p.s)).2 ≠ 0 then (([], []), (rec (typeOf b f.type) (bytes p.s)).2)
     else decGo b rec t (some p.id) ps (ids ++ [p.id]) (l ++ [(rec (typeOf b f.type) (bytes p.s)).1]))
    else decGo b rec t (some p.id) ps (ids ++ [p.id]) (l ++ [bareV p])
def decV (b : BookD) : Nat → TypeD → List UInt8 → ValueD × Int
 | 0, _, _ => (.zero, 7)
 | k + 1, t, s =>
  if (decF s).2 ≠ 0 then (.zero, (decF s).2)
  else if (decGo b (decV b k) t none (decF s).1 [] []).2 ≠ 0 then (.zero, (decGo b (decV b k) t none (decF s).1 [] []).2)
  else (filledF b 4 t (decGo b (decV b k) t none (decF s).1 [] []).1.1 (decGo b (decV b k) t none (decF s).1 [] []).1.2, 0)
def DecodeF (b : BookD) (name : ByteArray) (s : List UInt8) : ValueD × Int :=
 if goodF b ≠ 0 then (.zero, 1) else if noneB b name = true then (.zero, 3)
 else if (decV b 24 (typeOf b name) s).2 ≠ 0 then (.zero, (decV b 24 (typeOf b name) s).2)
 else if smallF (decV b 24 (typeOf b name) s).1 = false then (.zero, 7) else ((decV b 24 (typeOf b name) s).1, 0)
def LeastF (b : BookD) (name : ByteArray) : ValueD × Int :=
 if goodF b ≠ 0 then (.zero, 1) else if noneB b name = true then (.zero, 3) else (leastTF b 4 (typeOf b name), 0)
end Go.Proofs.YtihdnjnhhhafkaaGreatDoor
namespace Go.Proofs.YtihdnjnhhhafkaaGreatDoor
open Go.RowKit
def RValN : Nat → Rel ValueD
 | 0 => fun _ _ _ _ => False
 | n + 1 => fun S w cs v => ∃ vi vl, cs = [.int .i64 v.kind, .int .i64 v.n, .string v.s, vi, vl] ∧ RSl 1 8 RInt S w [vi] v.ids ∧ RSl 5 80 (RValN n) S w [vl] v.l
theorem RValN.fair : ∀ n, Fair (RValN n)
 | 0 => ⟨fun h _ => h, fun h _ => h⟩
 | n + 1 => ⟨by
   rintro S w w' cs v ⟨vi, vl, h, a, b⟩ hk
   exact ⟨vi, vl, h, (RSl.fair RInt.fair).keep a hk, (RSl.fair (RValN.fair n)).keep b hk⟩, by
   rintro S T w cs v ⟨vi, vl, h, a, b⟩ hk
   exact ⟨vi, vl, h, (RSl.fair RInt.fair).mono a hk, (RSl.fair (RValN.fair n)).mono b hk⟩⟩
theorem RSl.imp {α : Type} {sz by_ : Nat} {R R' : Rel α} {S : Nat → Prop} {w : World} {cs : List Value} {xs : List α} (h : RSl sz by_ R S w cs xs) (hi : ∀ x ∈ xs, ∀ es, R S w es x → R' S w es x) : RSl sz by_ R' S w cs xs := by
 obtain ⟨A, cap, h1, h2, h3, h4⟩ := h
 refine ⟨A, cap, h1, h2, h3, fun k x hx => ?_⟩
 obtain ⟨g, o, es, a, b, c, d, e, f⟩ := h4 k x hx
 exact ⟨g, o, es, a, b, c, d, hi x (List.mem_of_getElem? hx) es e, f⟩
theorem RValN.up {S : Nat → Prop} {w : World} : ∀ {n m : Nat} {cs : List Value} {v : ValueD}, RValN n S w cs v → n ≤ m → RValN m S w cs v
 | 0, _, _, _, h, _ => h.elim
 | n + 1, 0, _, _, _, h => absurd h (by omega)
 | n + 1, m + 1, _, _, ⟨vi, vl, h, a, b⟩, hm => ⟨vi, vl, h, a, b.imp fun _ _ _ hx => RValN.up hx (by omega)⟩
def RVal : Rel ValueD := fun S w cs v => RValN (depthV v) S w cs v
theorem RVal.fair : Fair RVal := ⟨fun h hk => (RValN.fair _).keep h hk, fun h hk => (RValN.fair _).mono h hk⟩
theorem depthL_mem' : ∀ {l : List ValueD} {x : ValueD}, x ∈ l → depthV x ≤ depthL l
 | [], _, h => by cases h
 | y :: l, x, h => by
  rw [depthL]
  rcases List.mem_cons.1 h with rfl | h
  ·omega
  ·have := depthL_mem' h; omega
theorem RValN.down {S : Nat → Prop} {w : World} : ∀ {n : Nat} {cs : List Value} {v : ValueD}, RValN n S w cs v → RVal S w cs v
 | 0, _, _, h => h.elim
 | n + 1, cs, .mk kind nn s ids l, ⟨vi, vl, h, a, b⟩ => by
  unfold RVal
  rw [depthV]
  exact ⟨vi, vl, h, a, b.imp fun x hx es hr => RValN.up (RValN.down hr : RVal S w es x) (depthL_mem' hx)⟩
theorem RVal.mk {S : Nat → Prop} {w : World} {vi vl : Value} {kind n : Int} {s : ByteArray} {ids : List Int} {l : List ValueD} (a : RSl 1 8 RInt S w [vi] ids) (b : RSl 5 80 RVal S w [vl] l) :
  RVal S w [.int .i64 kind, .int .i64 n, .string s, vi, vl] (.mk kind n s ids l) := by
 unfold RVal
 rw [depthV]
 exact ⟨vi, vl, rfl, a, b.imp fun x hx es hr => RValN.up hr (depthL_mem' hx)⟩
theorem RVal.parts {S : Nat → Prop} {w : World} {cs : List Value} {kind n : Int} {s : ByteArray} {ids : List Int} {l : List ValueD} (h : RVal S w cs (.mk kind n s ids l)) :
  ∃ A1 c1 A2 c2, cs = [.int .i64 kind, .int .i64 n, .string s, .slice A1 ids.length c1, .slice A2 l.length c2] ∧ RSl 1 8 RInt S w [.slice A1 ids.length c1] ids ∧ RSl 5 80 RVal S w [.slice A2 l.length c2] l := by
 unfold RVal at h
 rw [depthV] at h
 obtain ⟨vi, vl, rfl, a, b⟩ := h
 obtain ⟨A1, c1, rfl, _, _⟩ := a.form
 obtain ⟨A2, c2, rfl, _, _⟩ := b.form
 exact ⟨A1, c1, A2, c2, rfl, a, b.imp fun x _ es hr => RValN.down hr⟩
theorem RVal.zero {S : Nat → Prop} {w : World} : RVal S w [.int .i64 0, .int .i64 0, .string ⟨#[]⟩, .slice none 0 0, .slice none 0 0] .zero := RVal.mk RSl.nil_ RSl.nil_
theorem RVal.plain {S : Nat → Prop} {w : World} (k n : Int) (s : ByteArray) : RVal S w [.int .i64 k, .int .i64 n, .string s, .slice none 0 0, .slice none 0 0] (.mk k n s [] []) := RVal.mk RSl.nil_ RSl.nil_
theorem RVal.ones : OneCells RVal := by
 rintro S w cs ⟨kind, n, s, ids, l⟩ h
 obtain ⟨A1, c1, A2, c2, rfl, _, _⟩ := h.parts
 exact Ones.of_all rfl
theorem RInt.ones : OneCells RInt := by
 rintro S w cs x h
 have h' : cs = [.int .i64 x] := h
 subst h'; exact Ones.of_all rfl
def New (w : World) : Nat → Prop := fun g => w.heap.size ≤ g
def Un (S : Nat → Prop) (w : World) : Nat → Prop := fun g => S g ∨ w.heap.size ≤ g
mutual
def okV : ValueD → Prop
 | .mk _ _ s _ l => s.size ≤ 140737488351232 ∧ okL l
def okL : List ValueD → Prop
 | [] => True
 | x :: l => okV x ∧ okL l
end
theorem okL_mem : ∀ {l : List ValueD} {x : ValueD}, okL l → x ∈ l → okV x
 | [], _, _, h => by cases h
 | y :: l, x, hl, h => by
  rw [okL] at hl
  rcases List.mem_cons.1 h with rfl | h
  ·exact hl.1
  ·exact okL_mem hl.2 h
theorem okL_of : ∀ {l : List ValueD}, (∀ x ∈ l, okV x) → okL l
 | [], _ => trivial
 | x :: l, h => by rw [okL]; exact ⟨h x (by simp), okL_of fun y hy => h y (by simp [hy])⟩
theorem countL_mem' : ∀ {l : List ValueD} {x : ValueD}, x ∈ l → countV x ≤ countL l
 | [], _, h => by cases h
 | y :: l, x, h => by
  rw [countL]
  rcases List.mem_cons.1 h with rfl | h
  ·omega
  ·have := countL_mem' h; omega
theorem countL_take_succ : ∀ (l : List ValueD) (k : Nat) (h : k < l.length), countL (l.take (k + 1)) = countL (l.take k) + countV l[k]
 | [], _, h => by simp at h
 | x :: l, 0, _ => by simp [countL]
 | x :: l, k + 1, h => by
  simp only [List.take_succ_cons, countL, List.getElem_cons_succ]
  rw [countL_take_succ l k (by simpa using h)]
  omega
theorem depthL_take_succ : ∀ (l : List ValueD) (k : Nat) (h : k < l.length), depthL (l.take (k + 1)) = max (depthL (l.take k)) (depthV l[k])
 | [], _, h => by simp at h
 | x :: l, 0, _ => by simp [depthL]
 | x :: l, k + 1, h => by
  simp only [List.take_succ_cons, depthL, List.getElem_cons_succ]
  rw [depthL_take_succ l k (by simpa using h)]
  omega
theorem countL_take_le : ∀ (l : List ValueD) (k : Nat), countL (l.take k) ≤ countL l
 | [], _ => by simp
 | x :: l, 0 => by simp [countL]
 | x :: l, k + 1 => by simp only [List.take_succ_cons, countL]; have := countL_take_le l k; omega
theorem depthL_take_le : ∀ (l : List ValueD) (k : Nat), depthL (l.take k) ≤ depthL l
 | [], _ => by simp
 | x :: l, 0 => by simp [depthL]
 | x :: l, k + 1 => by simp only [List.take_succ_cons, depthL]; have := depthL_take_le l k; omega
end Go.Proofs.YtihdnjnhhhafkaaGreatDoor
namespace Go.Proofs.YtihdnjnhhhafkaaGreatDoor
theorem findT_some {b : BookD} {name : ByteArray} {t : TypeD} (h : findT b name = some t) : t ∈ b ∧ t.name = name := by
 have h1 := List.mem_of_find?_eq_some h
 have h2 := List.find?_some h
 exact ⟨h1, by simpa using h2⟩
theorem fieldOf_some {t : TypeD} {id : Int} {f : FieldD} (h : fieldOf t id = some f) : f ∈ t.fields ∧ f.id = id := by
 have h1 := List.mem_of_find?_eq_some h
 have h2 := List.find?_some h
 exact ⟨h1, by simpa using h2⟩
theorem good_parts {b : BookD} (h : goodF b = 0) : b.length ≤ 4 ∧ TypesP b ∧ LeastP b := by
 unfold goodF at h
 split at h
 ·simp at h
 ·split at h
  ·simp at h
  ·split at h
   ·simp at h
   ·rename_i h1 h2 h3
    exact ⟨by omega, by simpa using h2, by simpa using h3⟩
theorem good_msg {b : BookD} (h : goodF b = 0) {t : TypeD} (ht : t ∈ b) (he : t.enum = false) : MessageP b t := by
 obtain ⟨_, h1, _⟩ := good_parts h
 obtain ⟨i, hi, rfl⟩ := List.getElem_of_mem ht
 have := (h1 i hi).2.2
 rw [he] at this
 simpa [messageF] using this
theorem good_enum {b : BookD} (h : goodF b = 0) {t : TypeD} (ht : t ∈ b) (he : t.enum = true) : EnumP t := by
 obtain ⟨_, h1, _⟩ := good_parts h
 obtain ⟨i, hi, rfl⟩ := List.getElem_of_mem ht
 have := (h1 i hi).2.2
 rw [he] at this
 simpa [enumF] using this
theorem good_least {b : BookD} (h : goodF b = 0) {t : TypeD} (ht : t ∈ b) (he : t.enum = false) : 1 ≤ leastF b 4 t.name ∧ leastF b 4 t.name ≤ 12 := by
 obtain ⟨_, _, h1⟩ := good_parts h
 obtain ⟨i, hi, rfl⟩ := List.getElem_of_mem ht
 exact h1 i hi he
theorem pairwise_of_next {α : Type} {R : α → α → Prop} (tr : ∀ a b c, R a b → R b c → R a c) : ∀ (l : List α), (∀ i (h : i < l.length), ∀ (_ : 0 < i), R l[i - 1] l[i]) → l.Pairwise R
 | [], _ => .nil
 | [a], _ => by simp
 | a :: b :: l, h => by
  have ht := pairwise_of_next tr (b :: l) (fun i hi h0 => by
   have := h (i + 1) (by simp at hi ⊢; omega) (by omega)
   obtain ⟨j, rfl⟩ : ∃ j, i = j + 1 := ⟨i - 1, by omega⟩
   simpa using this)
  have hab : R a b := h 1 (by simp) (by omega)
  refine List.pairwise_cons.2 ⟨fun c hc => ?_, ht⟩
  rcases List.mem_cons.1 hc with rfl | hc
  ·exact hab
  ·exact tr _ _ _ hab ((List.pairwise_cons.1 ht).1 c hc)
theorem msg_sorted {b : BookD} {t : TypeD} (h : MessageP b t) : t.fields.Pairwise (fun f g => f.id < g.id) :=
 pairwise_of_next (R := fun f g : FieldD => f.id < g.id) (fun _ _ _ h1 h2 => Int.lt_trans h1 h2) _ fun i hi h0 => (h.2.2.2.2 i hi).2.1 h0
theorem msg_field {b : BookD} {t : TypeD} (h : MessageP b t) {f : FieldD} (hf : f ∈ t.fields) : fieldP b f := by
 obtain ⟨i, hi, rfl⟩ := List.getElem_of_mem hf
 exact (h.2.2.2.2 i hi).1
theorem find_sorted {α : Type} {k : α → Int} : ∀ {l : List α} {f : α}, l.Pairwise (fun f g => k f < k g) → f ∈ l → l.find? (fun g => decide (k g = k f)) = some f
 | a :: l, f, hs, hf => by
  rw [List.find?_cons]
  rcases List.mem_cons.1 hf with rfl | h
  ·simp
  ·have := (List.pairwise_cons.1 hs).1 f h
   have hne : ¬ k a = k f := by omega
   simp only [hne, decide_false]
   exact find_sorted (List.pairwise_cons.1 hs).2 h
theorem fieldOf_mem {b : BookD} {t : TypeD} (h : MessageP b t) {f : FieldD} (hf : f ∈ t.fields) : fieldOf t f.id = some f := find_sorted (msg_sorted h) hf
theorem field_msg {b : BookD} (hg : goodF b = 0) {f : FieldD} (hf : fieldP b f) (hk : f.kind = 5) : ∃ t, findT b f.type = some t ∧ typeOf b f.type = t ∧ t ∈ b ∧ t.name = f.type ∧ t.enum = false ∧ MessageP b t := by
 have h1 := (hf.2.2.2.2.2.2.2).2 (by omega)
 obtain ⟨t, ht⟩ := Option.isSome_iff_exists.1 h1.1
 have h2 := h1.2
 rw [ht] at h2
 have he : t.enum = false := by simpa [hk] using h2
 exact ⟨t, ht, by rw [typeOf, ht]; rfl, (findT_some ht).1, (findT_some ht).2, he, good_msg hg (findT_some ht).1 he⟩
theorem field_enum {b : BookD} (hg : goodF b = 0) {f : FieldD} (hf : fieldP b f) (hk : f.kind = 4) : ∃ t, findT b f.type = some t ∧ typeOf b f.type = t ∧ t.enum = true ∧ EnumP t := by
 have h1 := (hf.2.2.2.2.2.2.2).2 (by omega)
 obtain ⟨t, ht⟩ := Option.isSome_iff_exists.1 h1.1
 have h2 := h1.2
 rw [ht] at h2
 have he : t.enum = true := by simpa [hk] using h2
 exact ⟨t, ht, by rw [typeOf, ht]; rfl, he, good_enum hg (findT_some ht).1 he⟩
def Follow (t : TypeD) (i j : Int) : Prop := i ≤ j ∧ (i = j → ((fieldOf t i).getD .zero).rule = 3)
theorem Follow.trans {t : TypeD} {a b c : Int} (h1 : Follow t a b) (h2 : Follow t b c) : Follow t a c :=
 ⟨Int.le_trans h1.1 h2.1, fun h => h1.2 (by have := h1.1; have := h2.1; omega)⟩
theorem place_iff {t : TypeD} {last : Option Int} {id : Int} : placeF t last id = 0 ↔ (fieldOf t id).isSome = true ∧ ∀ k, last = some k → Follow t k id := by
 unfold placeF
 cases hf : fieldOf t id with
 | none => simp
 | some f =>
  cases last with
  | none => simp
  | some k =>
   simp only [Option.isSome_some, Option.some.injEq, true_and, forall_eq', Follow]
   by_cases h1 : id < k
   ·rw [if_pos h1]; simp; omega
   ·rw [if_neg h1]
    by_cases h2 : k = id ∧ f.rule ≠ 3
    ·rw [if_pos h2]
     obtain ⟨rfl, h2⟩ := h2
     simp [hf, h2]
    ·rw [if_neg h2]
     simp only [true_iff]
     refine ⟨by omega, ?_⟩
     rintro rfl
     rw [hf]
     simp at h2
     exact h2
def FitP (b : BookD) (t : TypeD) (id : Int) (x : ValueD) : Prop :=
 fitsF b ((fieldOf t id).getD .zero) x = 0 ∧ (((fieldOf t id).getD .zero).kind = 5 → typedF b (typeOf b ((fieldOf t id).getD .zero).type) x = 0)
theorem typedGo_iff (b : BookD) (t : TypeD) : ∀ (l : List ValueD) (ids : List Int) (last : Option Int), ids.length = l.length →
  (typedGo b t last ids l = 0 ↔ (∀ id ∈ ids, (fieldOf t id).isSome = true ∧ ∀ k, last = some k → Follow t k id) ∧ ids.Pairwise (Follow t) ∧ ∀ p ∈ ids.zip l, FitP b t p.1 p.2)
 | [], ids, last, h => by
  have : ids = [] := List.eq_nil_of_length_eq_zero (by simpa using h)
  subst this; simp [typedGo]
 | x :: l, [], last, h => by simp at h
 | x :: l, id :: ids, last, h => by
  have ih := typedGo_iff b t l ids (some id) (by simpa using h)
  have hs : typedGo b t last (id :: ids) (x :: l) = 0 ↔ placeF t last id = 0 ∧ FitP b t id x ∧ typedGo b t (some id) ids l = 0 := by
   rw [typedGo]
   by_cases h1 : placeF t last id = 0
   ·rw [if_neg (by simpa using h1)]
    unfold FitP
    by_cases h2 : fitsF b ((fieldOf t id).getD .zero) x = 0
    ·rw [if_neg (by simpa using h2)]
     by_cases h3 : ((fieldOf t id).getD .zero).kind = 5 ∧ typedF b (typeOf b ((fieldOf t id).getD .zero).type) x ≠ 0
     ·rw [if_pos h3]
      simp [h1, h2, h3.1, h3.2]
     ·rw [if_neg h3]
      have h4 : ((fieldOf t id).getD .zero).kind = 5 → typedF b (typeOf b ((fieldOf t id).getD .zero).type) x = 0 := by
       intro h5
       by_cases h6 : typedF b (typeOf b ((fieldOf t id).getD .zero).type) x = 0
       ·exact h6
       ·exact absurd ⟨h5, h6⟩ h3
      simp [h1, h2]
      intro _
      exact h4
    ·rw [if_pos h2]
     simp [h2]
   ·rw [if_pos h1]
    simp [h1]
  rw [hs, ih, place_iff]
  simp only [Option.some.injEq, forall_eq', List.mem_cons, forall_eq_or_imp, List.pairwise_cons, List.zip_cons_cons]
  constructor
  ·rintro ⟨⟨a1, a2⟩, b1, c1, c2, c3⟩
   exact ⟨⟨⟨a1, a2⟩, fun i hi => ⟨(c1 i hi).1, fun k hk => (a2 k hk).trans (c1 i hi).2⟩⟩, ⟨fun i hi => (c1 i hi).2, c2⟩, b1, c3⟩
  ·rintro ⟨⟨⟨a1, a2⟩, a3⟩, ⟨b1, b2⟩, c1, c2⟩
   exact ⟨⟨a1, a2⟩, c1, fun i hi => ⟨(a3 i hi).1, b1 i hi⟩, b2, c2⟩
theorem typedF_iff (b : BookD) (t : TypeD) (v : ValueD) : typedF b t v = 0 ↔ v.kind = 2 ∧ v.ids.length = v.l.length ∧ v.n = 0 ∧ v.s.size = 0 ∧ (∀ id ∈ v.ids, (fieldOf t id).isSome = true) ∧ v.ids.Pairwise (Follow t) ∧ (∀ p ∈ v.ids.zip v.l, FitP b t p.1 p.2) ∧ fullF t v.ids = true := by
 obtain ⟨kind, n, s, ids, l⟩ := v
 simp only [typedF, ValueD.kind, ValueD.ids, ValueD.l, ValueD.n, ValueD.s]
 by_cases h1 : kind = 2
 ·rw [if_neg (by simpa using h1)]
  by_cases h2 : ids.length ≠ l.length ∨ n ≠ 0 ∨ s.size ≠ 0
  ·rw [if_pos h2]
   constructor
   ·intro h; simp at h
   ·rintro ⟨_, a, b, c, _⟩; omega
  ·rw [if_neg h2]
   have hl : ids.length = l.length := by omega
   have := typedGo_iff b t l ids none hl
   by_cases h3 : typedGo b t none ids l = 0
   ·rw [if_neg (by simpa using h3)]
    have := this.1 h3
    by_cases h4 : fullF t ids = true
    ·rw [if_pos h4]
     simp only [true_iff]
     exact ⟨h1, hl, by omega, by omega, fun i hi => (this.1 i hi).1, this.2.1, this.2.2, h4⟩
    ·rw [if_neg h4]
     simp [h4]
   ·rw [if_pos h3]
    constructor
    ·intro h; exact absurd h h3
    ·rintro ⟨_, _, _, _, a, b, c, _⟩
     exact this.2 ⟨fun i hi => ⟨a i hi, fun k hk => by cases hk⟩, b, c⟩
 ·rw [if_pos h1]
  simp [h1]
theorem filter_front {β : Type} (k : Int) : ∀ (L : List (Int × β)), L.Pairwise (fun p q => p.1 ≤ q.1) → (∀ p ∈ L, k ≤ p.1) → L.filter (fun p => decide (p.1 = k)) ++ L.filter (fun p => decide (p.1 ≠ k)) = L
 | [], _, _ => rfl
 | a :: L, hs, hk => by
  have ih := filter_front k L (List.pairwise_cons.1 hs).2 (fun p hp => hk p (by simp [hp]))
  by_cases h : a.1 = k
  ·simp only [List.filter_cons, h, decide_true, if_true, ne_eq, not_true, decide_false]
   simpa using ih
  ·have h1 : L.filter (fun p => decide (p.1 = k)) = [] := by
    rw [List.filter_eq_nil_iff]
    intro p hp
    have := (List.pairwise_cons.1 hs).1 p hp
    have := hk a (by simp)
    simp; omega
   rw [h1] at ih
   simp only [List.filter_cons, h, decide_false, ne_eq, not_false_eq_true, decide_true, if_true, h1]
   simpa using ih
theorem flatMap_filter {β : Type} : ∀ (F : List Int) (L : List (Int × β)), F.Pairwise (· < ·) → L.Pairwise (fun p q => p.1 ≤ q.1) → (∀ p ∈ L, p.1 ∈ F) → F.flatMap (fun k => L.filter (fun p => decide (p.1 = k))) = L
 | [], L, _, _, h => by
  cases L with
  | nil => rfl
  | cons a L => exact absurd (h a (by simp)) (by simp)
 | k :: F, L, hF, hL, h => by
  have hk := List.pairwise_cons.1 hF
  have hlo : ∀ p ∈ L, k ≤ p.1 := by
   intro p hp
   rcases List.mem_cons.1 (h p hp) with h1 | h1
   ·omega
   ·have := hk.1 _ h1; omega
  have ih := flatMap_filter F (L.filter (fun p => decide (p.1 ≠ k))) hk.2 (hL.filter _) (fun p hp => by
   simp only [List.mem_filter, decide_eq_true_eq] at hp
   rcases List.mem_cons.1 (h p hp.1) with h1 | h1
   ·exact absurd h1 hp.2
   ·exact h1)
  have e : F.flatMap (fun k' => L.filter (fun p => decide (p.1 = k'))) = F.flatMap (fun k' => (L.filter (fun p => decide (p.1 ≠ k))).filter (fun p => decide (p.1 = k'))) := by
   have hmem : ∀ k' ∈ F, k < k' := hk.1
   clear ih hF hk h
   induction F with
   | nil => rfl
   | cons a F ih =>
    rw [List.flatMap_cons, List.flatMap_cons, ih (fun x hx => hmem x (by simp [hx]))]
    congr 1
    rw [List.filter_filter]
    apply List.filter_congr
    intro p _
    have := hmem a (by simp)
    by_cases hp : p.1 = a
    ·simp [hp]; omega
    ·simp [hp]
  rw [List.flatMap_cons, e, ih]
  exact filter_front k L hL hlo
theorem zip_fst {α β : Type} : ∀ (a : List α) (b : List β), a.length = b.length → (a.zip b).map (·.1) = a
 | [], _, _ => by simp
 | a :: as, [], h => by simp at h
 | a :: as, b :: bs, h => by simp [zip_fst as bs (by simpa using h)]
theorem zip_snd {α β : Type} : ∀ (a : List α) (b : List β), a.length = b.length → (a.zip b).map (·.2) = b
 | [], [], _ => by simp
 | [], b :: bs, h => by simp at h
 | a :: as, [], h => by simp at h
 | a :: as, b :: bs, h => by simp [zip_snd as bs (by simpa using h)]
theorem zip_pair {α β : Type} {R : α → α → Prop} : ∀ (a : List α) (b : List β), a.Pairwise R → (a.zip b).Pairwise (fun p q => R p.1 q.1)
 | [], _, _ => by simp
 | a :: as, [], _ => by simp
 | a :: as, b :: bs, h => by
  have := List.pairwise_cons.1 h
  exact List.pairwise_cons.2 ⟨fun p hp => this.1 _ (List.of_mem_zip hp).1, zip_pair as bs this.2⟩
theorem hasI_iff {l : List Int} {n : Int} : hasI l n = true ↔ n ∈ l := by
 unfold hasI; simp
theorem filled_id {b : BookD} {t : TypeD} (hm : MessageP b t) (k : Nat) {ids : List Int} {l : List ValueD} (hl : ids.length = l.length) (hk : ∀ id ∈ ids, (fieldOf t id).isSome = true) (hf : ids.Pairwise (Follow t)) (hu : fullF t ids = true) :
  filledF b k t ids l = msgV ids l := by
 have e1 : ∀ f ∈ t.fields, filledGo b k ids l f = (ids.zip l).filter fun p => decide (p.1 = f.id) := by
  intro f hf
  unfold filledGo
  rw [if_neg, List.nil_append]
  rintro ⟨h1, h2⟩
  have := List.all_eq_true.1 hu f hf
  simp [h1, h2] at this
 have e2 : t.fields.flatMap (filledGo b k ids l) = ids.zip l := by
  have : t.fields.flatMap (filledGo b k ids l) = (t.fields.map (·.id)).flatMap (fun i => (ids.zip l).filter fun p => decide (p.1 = i)) := by
   rw [List.flatMap_map]
   rw [List.flatMap_def, List.flatMap_def, List.map_congr_left e1]
  rw [this]
  refine flatMap_filter _ _ ?_ ((zip_pair ids l hf).imp fun h => h.1) ?_
  ·rw [List.pairwise_map]; exact msg_sorted hm
  ·intro p hp
   have := hk p.1 (List.of_mem_zip hp).1
   obtain ⟨f, hf⟩ := Option.isSome_iff_exists.1 this
   have := fieldOf_some hf
   exact List.mem_map.2 ⟨f, this.1, this.2⟩
 unfold filledF
 rw [e2, zip_fst _ _ hl, zip_snd _ _ hl]
end Go.Proofs.YtihdnjnhhhafkaaGreatDoor
namespace Go.Proofs.YtihdnjnhhhafkaaGreatDoor
def isLet (c : UInt8) : Bool := decide (97 ≤ c.toNat ∧ c.toNat ≤ 122)
def isDig (c : UInt8) : Bool := decide (48 ≤ c.toNat ∧ c.toNat ≤ 57)
def isWhite (c : UInt8) : Bool := decide (c.toNat = 32 ∨ c.toNat = 10 ∨ c.toNat = 9 ∨ c.toNat = 13)
def isSign (c : UInt8) : Bool := decide (c.toNat = 123 ∨ c.toNat = 125 ∨ c.toNat = 59)
def splitF : Nat → List UInt8 → Option (List ByteArray)
 | 0, _ => some []
 | _ + 1, [] => some []
 | k + 1, c :: l =>
  if isWhite c then splitF k l
  else if isSign c then (splitF k l).map (⟨#[c]⟩ :: ·)
  else if isLet c then (splitF k (l.dropWhile isLet)).map (⟨(c :: l.takeWhile isLet).toArray⟩ :: ·)
  else if decide (c.toNat = 45) || isDig c then (splitF k (l.dropWhile isDig)).map (⟨(c :: l.takeWhile isDig).toArray⟩ :: ·)
  else none
structure Rd where
 l : List ByteArray
 bad : Bool
def Rd.next (r : Rd) : ByteArray × Rd := match r.l with
 | [] => (⟨#[]⟩, ⟨[], true⟩)
 | s :: l => (s, ⟨l, r.bad⟩)
def Rd.take (r : Rd) (s : ByteArray) : Rd := if r.next.1 = s then r.next.2 else ⟨r.next.2.l, true⟩
def Rd.at_ (r : Rd) (s : ByteArray) : Bool := match r.l with
 | [] => false
 | x :: _ => decide (x = s)
def isW (s : ByteArray) : Bool := match bytes s with
 | [] => false
 | c :: _ => isLet c
def Rd.word (r : Rd) : ByteArray × Rd := (r.next.1, if isW r.next.1 then r.next.2 else ⟨r.next.2.l, true⟩)
def numW (s : ByteArray) : Option Int := match Lib.atoiAll (bytes s) with
 | .ok n => if Lib.itoa n = bytes s ∧ -1099511627776 ≤ n ∧ n ≤ 1099511627776 then some n else none
 | _ => none
def Rd.number (r : Rd) : Int × Rd := match numW r.next.1 with
 | some n => (n, r.next.2)
 | none => (0, ⟨r.next.2.l, true⟩)
def wOpen : ByteArray := ⟨#[123]⟩
def wShut : ByteArray := ⟨#[125]⟩
def wEnd : ByteArray := ⟨#[59]⟩
def wGone : ByteArray := ⟨#[103, 111, 110, 101]⟩
def wMessage : ByteArray := ⟨#[109, 101, 115, 115, 97, 103, 101]⟩
def wEnum : ByteArray := ⟨#[101, 110, 117, 109]⟩
def wBool : ByteArray := ⟨#[98, 111, 111, 108]⟩
def wInt : ByteArray := ⟨#[105, 110, 116]⟩
def wText : ByteArray := ⟨#[116, 101, 120, 116]⟩
def wOne : ByteArray := ⟨#[111, 110, 101]⟩
def wMaybe : ByteArray := ⟨#[109, 97, 121, 98, 101]⟩
def wMany : ByteArray := ⟨#[109, 97, 110, 121]⟩
def kindsL : List ByteArray := [⟨#[]⟩, wBool, wInt, wText]
def rulesL : List ByteArray := [⟨#[]⟩, wOne, wMaybe, wMany]
def insR {α : Type} (lt : α → α → Bool) (x : α) : List α → List α
 | [] => [x]
 | y :: l => if lt x y then y :: insR lt x l else x :: y :: l
def sortS {α : Type} (lt : α → α → Bool) (l : List α) : List α := (l.foldl (fun a x => insR lt x a) []).reverse
def itemsF : Nat → Rd → List ItemD → List ItemD × Rd
 | 0, r, acc => (acc, r)
 | k + 1, r, acc => if r.bad = false ∧ r.at_ wShut = false then itemsF k (r.number.2.word.2.take wEnd) (acc ++ [⟨r.number.2.word.1, r.number.1⟩]) else (acc, r)
def ltItem (a b : ItemD) : Bool := decide (a.n < b.n)
def ltField (a b : FieldD) : Bool := decide (a.id < b.id)
def ltInt (a b : Int) : Bool := decide (a < b)
def ltType (a b : TypeD) : Bool := decide (ltS a.name b.name)
def enumRF (r : Rd) : TypeD × Rd :=
 let r2 := r.word.2.take wOpen
 let q := itemsF (r2.l.length + 2) r2 []
 (⟨r.word.1, true, [], [], sortS ltItem q.1⟩, q.2.take wShut)
def goneRF : Nat → Rd → List Int → List Int × Rd
 | 0, r, acc => (acc, r)
 | k + 1, r, acc => if r.bad = false ∧ r.at_ wEnd = false then goneRF k r.number.2 (acc ++ [r.number.1]) else (acc, r)
def fieldRF (r : Rd) : FieldD × Rd :=
 let r1 := r.number.2
 let rule := idxS rulesL r1.next.1
 let r2 := r1.next.2
 let ty := r2.word.1
 let r3 := r2.word.2
 let r4 := r3.word.2
 (⟨r.number.1, r3.word.1, if 0 < idxS kindsL ty then ⟨#[]⟩ else ty, if 0 < idxS kindsL ty then idxS kindsL ty else 0, rule⟩, ⟨r4.l, r4.bad || decide (rule < 1)⟩)
def linesF : Nat → Rd → List FieldD → List Int → List FieldD × List Int × Rd
 | 0, r, fs, gs => (fs, gs, r)
 | k + 1, r, fs, gs => if r.bad = false ∧ r.at_ wShut = false then
   (if r.at_ wGone then linesF k ((goneRF (r.l.length + 2) r.next.2 gs).2.take wEnd) fs (goneRF (r.l.length + 2) r.next.2 gs).1
   else linesF k ((fieldRF r).2.take wEnd) (fs ++ [(fieldRF r).1]) gs)
  else (fs, gs, r)
def messageRF (r : Rd) : TypeD × Rd :=
 let r2 := r.word.2.take wOpen
 let q := linesF (r2.l.length + 2) r2 [] []
 (⟨r.word.1, false, sortS ltField q.1, sortS ltInt q.2.1, []⟩, q.2.2.take wShut)
def typesRF : Nat → Rd → List TypeD → List TypeD × Rd
 | 0, r, acc => (acc, r)
 | k + 1, r, acc => if 0 < r.l.length ∧ r.bad = false then
   (if r.next.1 = wMessage then typesRF k (messageRF r.next.2).2 (acc ++ [(messageRF r.next.2).1])
   else if r.next.1 = wEnum then typesRF k (enumRF r.next.2).2 (acc ++ [(enumRF r.next.2).1])
   else (acc, ⟨r.next.2.l, true⟩))
  else (acc, r)
def fixField (b : BookD) (f : FieldD) : FieldD := if f.kind = 0 then { f with kind := if (findT b f.type).isSome && ((findT b f.type).getD .zero).enum then 4 else 5 } else f
def fixF (b : BookD) : BookD := b.map fun t => { t with fields := t.fields.map (fixField b) }
def parseF (s : List UInt8) : BookD × Int :=
 if 4000 < s.length then ([], 7)
 else match splitF s.length s with
  | none => ([], 1)
  | some l =>
   let q := typesRF (l.length + 2) ⟨l, false⟩ []
   if q.2.bad then ([], 1)
   else if goodF (fixF (sortS ltType q.1)) ≠ 0 then ([], goodF (fixF (sortS ltType q.1)))
   else (fixF (sortS ltType q.1), 0)
def printItem (x : ItemD) : List UInt8 := [32, 32] ++ Lib.itoa x.n ++ [32] ++ bytes x.name ++ [59, 10]
def kindName (f : FieldD) : ByteArray := if f.kind < 4 then (kindsL[f.kind.toNat]?).getD ⟨#[]⟩ else f.type
def ruleName (f : FieldD) : ByteArray := (rulesL[f.rule.toNat]?).getD ⟨#[]⟩
def printField (f : FieldD) : List UInt8 := [32, 32] ++ Lib.itoa f.id ++ [32] ++ bytes (ruleName f) ++ [32] ++ bytes (kindName f) ++ [32] ++ bytes f.name ++ [59, 10]
def printGone (l : List Int) : List UInt8 := if l.length = 0 then [] else [32, 32, 103, 111, 110, 101] ++ l.flatMap (fun n => 32 :: Lib.itoa n) ++ [59, 10]
def printType (t : TypeD) : List UInt8 :=
 if t.enum then bytes wEnum ++ [32] ++ bytes t.name ++ [32, 123, 10] ++ t.items.flatMap printItem ++ [125, 10]
 else bytes wMessage ++ [32] ++ bytes t.name ++ [32, 123, 10] ++ t.fields.flatMap printField ++ printGone t.gone ++ [125, 10]
def printF (b : BookD) : List UInt8 × Int := if goodF b ≠ 0 then ([], goodF b) else (b.flatMap printType, 0)
end Go.Proofs.YtihdnjnhhhafkaaGreatDoor
namespace Go.Proofs.YtihdnjnhhhafkaaGreatDoor
section
variable {α : Type} {lt : α → α → Bool}
theorem insR_pass (x : α) : ∀ (Q S : List α), (∀ y ∈ Q, lt x y = true) → insR lt x (Q ++ S) = Q ++ insR lt x S
 | [], _, _ => rfl
 | y :: Q, S, h => by
  rw [List.cons_append, insR, if_pos (h y (by simp)), insR_pass x Q S (fun z hz => h z (by simp [hz]))]
  rfl
theorem insR_stop (x : α) (S : List α) (h : ∀ y, S.head? = some y → lt x y = false) : insR lt x S = x :: S := by
 cases S with
 | nil => rfl
 | cons y S => rw [insR, if_neg (by simp [h y rfl])]
theorem insR_len (x : α) : ∀ (S : List α), (insR lt x S).length = S.length + 1
 | [] => rfl
 | y :: S => by
  rw [insR]
  split
  ·simp [insR_len x S]
  ·simp
theorem sortS_snoc (l : List α) (x : α) : sortS lt (l ++ [x]) = (insR lt x (sortS lt l).reverse).reverse := by
 unfold sortS
 rw [List.foldl_append]
 simp
theorem sortS_len (l : List α) : (sortS lt l).length = l.length := by
 unfold sortS
 rw [List.length_reverse]
 have : ∀ (m acc : List α), (m.foldl (fun a x => insR lt x a) acc).length = m.length + acc.length := by
  intro m
  induction m with
  | nil => intro acc; simp
  | cons x m ih => intro acc; rw [List.foldl_cons, ih, insR_len]; simp; omega
 simpa using this l []
theorem ins_at {P : List α} {x : α} {j : Nat} (ha : ∀ y ∈ P.drop j, lt x y = true) (hs : ∀ (h : 0 < j) (h2 : j - 1 < P.length), lt x P[j - 1] = false) (hj : j ≤ P.length) :
  (insR lt x P.reverse).reverse = P.take j ++ x :: P.drop j := by
 have e : P.reverse = (P.drop j).reverse ++ (P.take j).reverse := by rw [← List.reverse_append, List.take_append_drop]
 rw [e, insR_pass x _ _ (fun y hy => ha y (List.mem_reverse.1 hy)), insR_stop]
 ·simp
 ·intro y hy
  rw [List.head?_reverse, List.getLast?_eq_getElem?, List.length_take, Nat.min_eq_left hj] at hy
  by_cases h0 : 0 < j
  ·have h2 : j - 1 < P.length := by omega
   rw [List.getElem?_take, if_pos (by omega), List.getElem?_eq_getElem h2] at hy
   injection hy with hy
   rw [← hy]; exact hs h0 h2
  ·obtain rfl : j = 0 := by omega
   simp at hy
def Mid (lt : α → α → Bool) (xs : List α) (i j : Nat) (ys : List α) : Prop :=
 ∃ (x : α) (_ : xs[i]? = some x), j ≤ i ∧ ys = (sortS lt (xs.take i)).take j ++ x :: ((sortS lt (xs.take i)).drop j ++ xs.drop (i + 1)) ∧ ∀ y ∈ (sortS lt (xs.take i)).drop j, lt x y = true
theorem sorted_len {xs : List α} {i : Nat} (hi : i ≤ xs.length) : (sortS lt (xs.take i)).length = i := by rw [sortS_len, List.length_take]; omega
theorem mid_start {xs ys : List α} {i : Nat} (hi : i < xs.length) (h : ys = sortS lt (xs.take i) ++ xs.drop i) : Mid lt xs i i ys := by
 have hl : (sortS lt (xs.take i)).length = i := sorted_len (by omega)
 refine ⟨xs[i], List.getElem?_eq_getElem hi, Nat.le_refl _, ?_, ?_⟩
 ·rw [h]
  generalize sortS lt (xs.take i) = P at hl ⊢
  rw [List.drop_eq_getElem_cons hi, List.take_of_length_le (by omega), List.drop_eq_nil_of_le (as := P) (by omega)]; rfl
 ·generalize sortS lt (xs.take i) = P at hl ⊢
  rw [List.drop_eq_nil_of_le (by omega)]; intro y hy; cases hy
theorem mid_step {xs ys : List α} {i q : Nat} (hi : i < xs.length) (h : Mid lt xs i (q + 1) ys) (h1 : q + 1 < ys.length) (hlt : lt ys[q + 1] ys[q] = true) : Mid lt xs i q ((ys.set (q + 1) ys[q]).set q ys[q + 1]) := by
 obtain ⟨x, hx, hq, he, ha⟩ := h
 have hl : (sortS lt (xs.take i)).length = i := sorted_len (by omega)
 obtain ⟨P, hP⟩ : ∃ P, P = sortS lt (xs.take i) := ⟨_, rfl⟩
 rw [← hP] at he ha hl
 have hqP : q < P.length := by omega
 have hd : P.drop q = P[q] :: P.drop (q + 1) := List.drop_eq_getElem_cons hqP
 have ht : P.take (q + 1) = P.take q ++ [P[q]] := List.take_succ_eq_append_getElem hqP
 have hlt' : (P.take q).length = q := by rw [List.length_take]; omega
 have he2 : ys = P.take q ++ P[q] :: x :: (P.drop (q + 1) ++ xs.drop (i + 1)) := by rw [he, ht, List.append_assoc]; rfl
 have y1 : ys[q + 1] = x := by
  have : ys[q + 1]? = some x := by
   rw [he2, List.getElem?_append_right (by omega), hlt', show q + 1 - q = 1 by omega]; rfl
  rw [List.getElem?_eq_getElem h1] at this; injection this
 have y0 : ys[q] = P[q] := by
  have : ys[q]? = some P[q] := by
   rw [he2, List.getElem?_append_right (by omega), hlt', Nat.sub_self]; rfl
  rw [List.getElem?_eq_getElem (by omega)] at this; injection this
 rw [y1, y0] at hlt ⊢
 refine ⟨x, hx, by omega, ?_, ?_⟩
 ·rw [← hP, hd, he2, List.set_append, if_neg (by omega), hlt', show q + 1 - q = 1 by omega, List.set_append, if_neg (by omega), hlt', Nat.sub_self]
  rfl
 ·rw [← hP, hd]
  intro y hy
  rcases List.mem_cons.1 hy with rfl | hy
  ·exact hlt
  ·exact ha y hy
theorem mid_end {xs ys : List α} {i j : Nat} (hi : i < xs.length) (h : Mid lt xs i j ys) (hs : ∀ (_ : 0 < j) (h1 : j < ys.length), lt ys[j] ys[j - 1] = false) : ys = sortS lt (xs.take (i + 1)) ++ xs.drop (i + 1) := by
 obtain ⟨x, hx, hq, he, ha⟩ := h
 have hl : (sortS lt (xs.take i)).length = i := sorted_len (by omega)
 obtain ⟨P, hP⟩ : ∃ P, P = sortS lt (xs.take i) := ⟨_, rfl⟩
 rw [← hP] at he ha hl
 have hlt' : (P.take j).length = j := by rw [List.length_take]; omega
 have hxi : xs.take (i + 1) = xs.take i ++ [x] := by
  rw [List.take_succ_eq_append_getElem hi]
  rw [List.getElem?_eq_getElem hi] at hx
  injection hx with hx
  rw [hx]
 rw [hxi, sortS_snoc, ← hP, ins_at ha (fun h0 h2 => ?_) (by omega), he]
 ·simp
 ·have hyl : j < ys.length := by rw [he]; simp; omega
  have := hs h0 hyl
  have y1 : ys[j] = x := by
   have : ys[j]? = some x := by rw [he, List.getElem?_append_right (by omega), hlt', Nat.sub_self]; rfl
   rw [List.getElem?_eq_getElem hyl] at this; injection this
  have y0 : ys[j - 1] = P[j - 1] := by
   have : ys[j - 1]? = some P[j - 1] := by
    rw [he, List.getElem?_append_left (by omega), List.getElem?_take, if_pos (by omega), List.getElem?_eq_getElem h2]
   rw [List.getElem?_eq_getElem (by omega)] at this; injection this
  rw [y1, y0] at this; exact this
theorem swap_mem {ys : List α} {i j : Nat} (hi : i < ys.length) (hj : j < ys.length) {Q : α → Prop} (h : ∀ y ∈ ys, Q y) : ∀ y ∈ (ys.set i ys[j]).set j ys[i], Q y := by
 intro y hy
 rcases List.mem_or_eq_of_mem_set hy with hy | rfl
 ·rcases List.mem_or_eq_of_mem_set hy with hy | rfl
  ·exact h y hy
  ·exact h _ (List.getElem_mem hj)
 ·exact h _ (List.getElem_mem hi)
end
end Go.Proofs.YtihdnjnhhhafkaaGreatDoor
