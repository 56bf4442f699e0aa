/- Several texts of walks and laws in one file; what each proves stands at its head. -/
import Derived.WalkKit
import Derived.WalkSpells
import Derived.WalkLawsBesides
import Derived.Deep.QuietTactic
import Derived.BigQuiet
import Derived.Lib.Hide
import Derived.Maps.AppendAt
import Derived.Deep.AppendLies
import Derived.Lib.AppendStr
import Derived.Lib.ItoaNum
import Derived.Lib.AtoiTie
import Derived.Laws.OwnMore
set_option linter.all false
namespace Go.Proofs.YtfobdbhmfohfnaaGreatDoor
open Go.RowKit
def Keep (S : Nat → Prop) (w w' : World) : Prop := w.heap.size ≤ w'.heap.size ∧ ∀ g, S g → g < w.heap.size → w'.heap[g]? = w.heap[g]?
theorem Keep.refl (S : Nat → Prop) (w : World) : Keep S w w := ⟨Nat.le_refl _, fun _ _ _ => rfl⟩
theorem Keep.trans {S : Nat → Prop} {a b c : World} (h : Keep S a b) (k : Keep S b c) : Keep S a c :=
 ⟨Nat.le_trans h.1 k.1, fun g hs hg => (k.2 g hs (Nat.lt_of_lt_of_le hg h.1)).trans (h.2 g hs hg)⟩
theorem Keep.of_below {S : Nat → Prop} {w w' : World} (h : Below w.heap.size w w') : Keep S w w' := ⟨h.size, fun g _ hg => h.block g hg⟩
theorem Keep.of_grown {S : Nat → Prop} {w w' : World} {row : Option Nat} (h : w.grownBy w' row) (hr : ∀ k, row = some k → ¬ S k) : Keep S w w' :=
 ⟨h.size, fun g hs hg => h.block g hg (fun e => hr g e.symm hs)⟩
theorem Keep.alloc (S : Nat → Prop) (w : World) (o : Obj) : Keep S w (w.alloc o) := ⟨by simp, fun g _ hg => Below.heap_alloc w o g hg⟩
theorem Keep.setCell {S : Nat → Prop} (w : World) {a : Addr} (u : Value) (ha : ¬ S a.block) : Keep S w (w.setCell a u) :=
 ⟨by simp [World.setCell], fun g hs _ => Below.heap_setCell w a u g (fun e => ha (e ▸ hs))⟩
theorem Keep.drew (S : Nat → Prop) (w : World) : Keep S w w.drew := ⟨Nat.le_refl _, fun _ _ _ => rfl⟩
theorem Keep.drewN (S : Nat → Prop) (w : World) (n : Nat) : Keep S w (w.drewN n) := ⟨Nat.le_refl _, fun _ _ _ => rfl⟩
theorem Keep.mono {S T : Nat → Prop} {w w' : World} (h : Keep S w w') (hs : ∀ g, T g → S g) : Keep T w w' := ⟨h.1, fun g hg => h.2 g (hs g hg)⟩
def Lies (w : World) (g o : Nat) (cs : List Value) : Prop := ∀ j, j < cs.length → w.cell? ⟨g, o + j, none⟩ = cs[j]?
theorem Lies.keep {S : Nat → Prop} {w w' : World} {g o : Nat} {cs : List Value} (h : Lies w g o cs) (hk : Keep S w w') (hg : S g) : Lies w' g o cs := fun j hj => by
 have h1 := h j hj
 rw [List.getElem?_eq_getElem hj] at h1
 have hlt := World.block_lt_of_cell? w _ h1
 rw [World.cell?_of_block (w := w) (hk.2 g hg hlt), List.getElem?_eq_getElem hj]
 exact h1
theorem Lies.at_ {w : World} {g o : Nat} {cs : List Value} (h : Lies w g o cs) (j : Nat) {u : Value} (hj : cs[j]? = some u) : w.cell? ⟨g, o + j, none⟩ = some u := by
 have hl : j < cs.length := by
  rcases Nat.lt_or_ge j cs.length with h | h
  ·exact h
  ·rw [List.getElem?_eq_none h] at hj; cases hj
 rw [h j hl, hj]
abbrev Rel (α : Type) := (Nat → Prop) → World → List Value → α → Prop
structure Fair {α : Type} (R : Rel α) : Prop where
 keep : ∀ {S w w' cs x}, R S w cs x → Keep S w w' → R S w' cs x
 mono : ∀ {S T w cs x}, R S w cs x → (∀ g, S g → g < w.heap.size → T g) → R T w cs x
def RSl {α : Type} (sz by_ : Nat) (R : Rel α) : Rel (List α) := fun S w cs xs =>
 ∃ A cap, cs = [.slice A xs.length cap] ∧ xs.length ≤ cap ∧ xs.length * by_ ≤ 140737488351232 ∧
  ∀ k x, xs[k]? = some x → ∃ g o es, A = some ⟨g, o, none⟩ ∧ S g ∧ g < w.heap.size ∧ es.length = sz ∧ R S w es x ∧ Lies w g (o + k * sz) es
theorem RSl.fair {α : Type} {sz by_ : Nat} {R : Rel α} (hR : Fair R) : Fair (RSl sz by_ R) := ⟨by
  rintro S w w' cs xs ⟨A, cap, h1, h2, h3, h4⟩ hk
  refine ⟨A, cap, h1, h2, h3, fun k x hx => ?_⟩
  obtain ⟨g, o, es, ha, hs, hg, hl, hr, hc⟩ := h4 k x hx
  exact ⟨g, o, es, ha, hs, Nat.lt_of_lt_of_le hg hk.1, hl, hR.keep hr hk, hc.keep hk hs⟩, by
  rintro S T w cs xs ⟨A, cap, h1, h2, h3, h4⟩ hm
  refine ⟨A, cap, h1, h2, h3, fun k x hx => ?_⟩
  obtain ⟨g, o, es, ha, hs, hg, hl, hr, hc⟩ := h4 k x hx
  exact ⟨g, o, es, ha, hm g hs hg, hg, hl, hR.mono hr hm, hc⟩⟩
def RFlat {α : Type} (enc : α → List Value) : Rel α := fun _ _ cs x => cs = enc x
theorem RFlat.fair {α : Type} (enc : α → List Value) : Fair (RFlat enc) := ⟨fun h _ => h, fun h _ => h⟩
def RInt : Rel Int := RFlat fun x => [.int .i64 x]
theorem RInt.fair : Fair RInt := RFlat.fair _
def RStr : Rel ByteArray := RFlat fun x => [.string x]
theorem RStr.fair : Fair RStr := RFlat.fair _
section
variable {α : Type} {sz by_ : Nat} {R : Rel α} {S : Nat → Prop} {w : World} {v : Value} {xs : List α}
theorem RSl.form (h : RSl sz by_ R S w [v] xs) : ∃ A cap, v = .slice A xs.length cap ∧ xs.length ≤ cap ∧ xs.length * by_ ≤ 140737488351232 := by
 obtain ⟨A, cap, h1, h2, h3, _⟩ := h
 exact ⟨A, cap, by simpa using h1, h2, h3⟩
theorem RSl.at_ {A : Option Addr} {n cap k : Nat} (h : RSl sz by_ R S w [.slice A n cap] xs) (hk : k < xs.length) :
  ∃ g o es, A = some ⟨g, o, none⟩ ∧ S g ∧ g < w.heap.size ∧ es.length = sz ∧ R S w es xs[k] ∧ Lies w g (o + k * sz) es := by
 obtain ⟨A', cap', h1, _, _, h4⟩ := h
 obtain ⟨rfl, _, _⟩ : A = A' ∧ n = xs.length ∧ cap = cap' := by simpa using h1
 exact h4 k _ (List.getElem?_eq_getElem hk)
theorem RSl.len {A : Option Addr} {n cap : Nat} (h : RSl sz by_ R S w [.slice A n cap] xs) : n = xs.length := by
 obtain ⟨A', cap', h1, _⟩ := h
 simp at h1; exact h1.2.1
theorem RSl.nil_ : RSl sz by_ R S w [.slice none 0 0] ([] : List α) := ⟨none, 0, by simp, by simp, by simp, fun k x hx => by simp at hx⟩
end
def Own {α : Type} (base e sz : Nat) (R : Rel α) (T : Nat → Prop) (w : World) (v : Value) (xs : List α) : Prop :=
 ∃ css : List (List Value), w.ownsRow base e sz v xs.length css.flatten ∧ css.length = xs.length ∧ (∀ k, v.ownBlock = some k → ¬ T k) ∧
  ∀ (k : Nat) (x : α) (cs : List Value), xs[k]? = some x → css[k]? = some cs → cs.length = sz ∧ R T w cs x
section
variable {α : Type} {base e sz by_ : Nat} {R : Rel α} {T : Nat → Prop} {w w' : World} {v : Value} {xs : List α}
theorem Own.nil_ (base e sz : Nat) (R : Rel α) (T : Nat → Prop) (w : World) : Own base e sz R T w (.slice none 0 0) ([] : List α) :=
 ⟨[], World.ownsRow_nil _ _ _ _, rfl, fun k hk => by simp [Value.ownBlock] at hk, fun k x cs hx => by simp at hx⟩
theorem Own.lt (h : Own base e sz R T w v xs) {k : Nat} (hk : v.ownBlock = some k) : base ≤ k ∧ k < w.heap.size := by
 obtain ⟨css, h1, _⟩ := h; exact h1.lt k hk
theorem Own.kept (hR : Fair R) (h : Own base e sz R T w v xs) {row : Option Nat} (hg : w.grownBy w' row) (hne : v.ownBlock = none ∨ v.ownBlock ≠ row) (hT : ∀ k, row = some k → ¬ T k) : Own base e sz R T w' v xs := by
 obtain ⟨css, h1, h2, h3, h4⟩ := h
 exact ⟨css, h1.kept hg hne, h2, h3, fun k x cs hx hc => ⟨(h4 k x cs hx hc).1, hR.keep (h4 k x cs hx hc).2 (Keep.of_grown hg hT)⟩⟩
theorem Own.alloc (hR : Fair R) (h : Own base e sz R T w v xs) (o : Obj) : Own base e sz R T (w.alloc o) v xs :=
 h.kept hR (World.grownBy_alloc w o none) (by cases hv : v.ownBlock <;> simp) (by simp)
theorem Own.mono (hR : Fair R) (h : Own base e sz R T w v xs) {T' : Nat → Prop} (hT : ∀ g, T g → g < w.heap.size → T' g) (hv : ∀ k, v.ownBlock = some k → ¬ T' k) : Own base e sz R T' w v xs := by
 obtain ⟨css, h1, h2, h3, h4⟩ := h
 exact ⟨css, h1, h2, hv, fun k x cs hx hc => ⟨(h4 k x cs hx hc).1, hR.mono (h4 k x cs hx hc).2 hT⟩⟩
end
def Newer (w : World) (row : Option Nat) (v : Value) : Prop := v.ownBlock = row ∨ ∀ k, v.ownBlock = some k → w.heap.size ≤ k
theorem grown_via {a b c : World} {row row2 : Option Nat} (h : a.grownBy b row) (k : b.grownBy c row2) (hr : row2 = row ∨ ∀ k, row2 = some k → a.heap.size ≤ k) : a.grownBy c row :=
 ⟨k.os.trans h.os, k.tape.trans h.tape, k.output.trans h.output, Nat.le_trans h.size k.size, fun i hi hne => by
  refine (k.block i (Nat.lt_of_lt_of_le hi h.size) (fun e => ?_)).trans (h.block i hi hne)
  rcases hr with hr | hr
  ·exact hne (e.trans hr)
  ·have := hr i e.symm; omega⟩
theorem grown_alloc {a b : World} {row : Option Nat} (h : a.grownBy b row) (o : Obj) : a.grownBy (b.alloc o) row :=
 grown_via h (World.grownBy_alloc b o row) (.inl rfl)
theorem grown_below {a b : World} (h : Below a.heap.size a b) (row : Option Nat) : a.grownBy b row := ⟨h.os, h.tape, h.output, h.size, fun i hi _ => h.block i hi⟩
theorem grown_setCell {a b : World} {row : Option Nat} (h : a.grownBy b row) {p : Addr} (hp : some p.block = row ∨ a.heap.size ≤ p.block) (u : Value) : a.grownBy (b.setCell p u) row :=
 ⟨h.os, h.tape, h.output, by simpa [World.setCell] using h.size, fun i hi hne => (Below.heap_setCell b p u i (by
  rintro rfl
  rcases hp with hp | hp
  ·exact hne hp
  ·omega)).trans (h.block i hi hne)⟩
theorem grown_drew {a b : World} {row : Option Nat} (h : a.grownBy b row) : a.grownBy b.drew row := ⟨h.os, h.tape, h.output, h.size, h.block⟩
theorem Newer.step {a b : World} {row : Option Nat} {v v' : Value} {n : Nat} (h : Newer a row v) (h' : v'.ownBlock = v.ownBlock ∨ v'.ownBlock = some n) (hs : a.heap.size ≤ b.heap.size) (hn : b.heap.size ≤ n) : Newer a row v' := by
 rcases h' with h' | h'
 ·unfold Newer; rw [h']; exact h
 ·right; intro k hk; rw [h'] at hk; cases hk; omega
theorem Newer.trans {a b : World} {v v' : Value} {row : Option Nat} (h : Newer a row v) (h' : Newer b v.ownBlock v') (hs : a.heap.size ≤ b.heap.size) : Newer a row v' := by
 rcases h' with h' | h'
 ·unfold Newer; rw [h']; exact h
 ·right; intro k hk; have := h' k hk; omega
def SlInfo (P : Program) (t e sz by_ : Nat) : Prop :=
 P.underlying t = some (.slice e) ∧ 0 < sz ∧ 0 < by_ ∧ ∃ i z, P.info? e = some i ∧ i.zero = some z ∧ i.size = sz ∧ i.bytes = by_ ∧ z.cells.size = sz
theorem SlInfo.mk {P : Program} {t e sz by_ : Nat} {z : Value} (h1 : P.underlying t = some (.slice e)) (h2 : 0 < sz) (h3 : 0 < by_)
  (h4 : (P.info? e).map (fun i => (i.zero, i.size, i.bytes)) = some (some z, sz, by_)) (h5 : z.cells.size = sz) : SlInfo P t e sz by_ := by
 obtain ⟨i, hi, hz, hs, hb⟩ := info_parts h4
 exact ⟨h1, h2, h3, i, z, hi, hz, hs, hb, h5⟩
theorem flatten_get {α : Type} : ∀ (l : List (List α)) (n k j : Nat) (c : List α), (∀ x ∈ l, x.length = n) → l[k]? = some c → j < n → l.flatten[k * n + j]? = c[j]?
 | [], n, k, j, c, _, h, _ => by simp at h
 | x :: l, n, 0, j, c, hn, h, hj => by
  simp at h; subst h
  rw [List.flatten_cons, Nat.zero_mul, Nat.zero_add, List.getElem?_append_left (by rw [hn x (by simp)]; exact hj)]
 | x :: l, n, k + 1, j, c, hn, h, hj => by
  have hx := hn x (by simp)
  rw [List.flatten_cons, List.getElem?_append_right (by rw [hx, Nat.add_mul]; omega), hx]
  have := flatten_get l n k j c (fun y hy => hn y (by simp [hy])) (by simpa using h) hj
  rw [← this]; congr 1; rw [Nat.add_mul]; omega
theorem flatten_len {α : Type} (n : Nat) : ∀ (l : List (List α)), (∀ x ∈ l, x.length = n) → l.flatten.length = l.length * n
 | [], _ => by simp
 | x :: l, h => by rw [List.flatten_cons, List.length_append, h x (by simp), flatten_len n l (fun y hy => h y (by simp [hy])), List.length_cons, Nat.add_mul]; omega
def Ones (cs : List Value) : Prop := ∀ u ∈ cs, u.oneCell' = true
section
variable {α : Type} {P : Program} {w : World} {R : Rel α} {T : Nat → Prop}
def Src (sz : Nat) (R : Rel α) (T : Nat → Prop) (w : World) (A : Option Addr) (ys : List α) : Prop :=
 ∃ css : List (List Value), css.length = ys.length ∧ (∀ x ∈ css, x.length = sz ∧ Ones x) ∧
  (∀ (k : Nat) (y : α) (cs : List Value), ys[k]? = some y → css[k]? = some cs → R T w cs y) ∧
  (∀ j u, css.flatten[j]? = some u → ∃ ad, A = some ad ∧ w.cell? (ad.add j) = some u)
theorem Src.nil_ (sz : Nat) (R : Rel α) (T : Nat → Prop) (w : World) (A : Option Addr) : Src sz R T w A ([] : List α) :=
 ⟨[], rfl, by simp, fun k y cs h => by simp at h, fun j u h => by simp at h⟩
theorem Src.one {sz g : Nat} {es : List Value} {y : α} (hl : es.length = sz) (h1 : Ones es) (hr : R T w es y) (hc : Lies w g 0 es) : Src sz R T w (some ⟨g, 0, none⟩) [y] := by
 refine ⟨[es], rfl, ?_, ?_, ?_⟩
 ·simpa using ⟨hl, h1⟩
 ·intro k y' cs hy hcs
  cases k with
  | zero => simp at hy hcs; subst hy; subst hcs; exact hr
  | succ k => simp at hy
 ·intro j u hj
  simp at hj
  refine ⟨_, rfl, ?_⟩
  have := hc.at_ j hj
  have hadd : (⟨g, 0, none⟩ : Addr).add j = ⟨g, 0 + j, none⟩ := by unfold Addr.add; split <;> simp_all
  rw [hadd]; exact this
theorem Lies.new (w : World) (cs : List Value) (e : TypeId) : Lies (w.alloc (.cells cs.toArray e)) w.heap.size 0 cs := by
 intro j hj
 rw [Nat.zero_add, cell_of_row (w.alloc (.cells cs.toArray e)) w.heap.size j cs.toArray e (0, 0) (heap_alloc_new w _)]
 simp
theorem Ones.of_all {cs : List Value} (h : cs.all (fun u => u.oneCell') = true) : Ones cs := fun u hu => by
 simpa using List.all_eq_true.1 h u hu
def OneCells (R : Rel α) : Prop := ∀ {S w cs x}, R S w cs x → Ones cs
theorem RSl.src {sz by_ cap n : Nat} {A : Option Addr} {xs : List α} (h0 : 0 < sz) (ho : OneCells R) (h : RSl sz by_ R T w [.slice A n cap] xs) : Src sz R T w A xs := by
 by_cases hx : xs.length = 0
 ·have : xs = [] := List.eq_nil_of_length_eq_zero hx
  subst this; exact Src.nil_ _ _ _ _ _
 obtain ⟨g, o, _, hA, _⟩ := h.at_ (k := 0) (by omega)
 subst hA
 have hk : ∀ k, k < xs.length → ∃ es : List Value, es.length = sz ∧ (∀ x, xs[k]? = some x → R T w es x) ∧ Lies w g (o + k * sz) es := by
  intro k hk
  obtain ⟨g', o', es, ha, _, _, hl, hr, hc⟩ := h.at_ hk
  simp at ha
  obtain ⟨rfl, rfl⟩ := ha
  exact ⟨es, hl, fun x hx => by rw [List.getElem?_eq_getElem hk] at hx; cases hx; exact hr, hc⟩
 let f : Nat → List Value := fun k => if hk' : k < xs.length then (hk k hk').choose else []
 have hf : ∀ k (hk' : k < xs.length), f k = (hk k hk').choose := fun k hk' => by simp only [f]; rw [dif_pos hk']
 refine ⟨(List.range xs.length).map f, by simp, ?_, ?_, ?_⟩
 ·intro x hx
  simp only [List.mem_map, List.mem_range] at hx
  obtain ⟨k, hk', rfl⟩ := hx
  rw [hf k hk']
  exact ⟨(hk k hk').choose_spec.1, ho ((hk k hk').choose_spec.2.1 _ (List.getElem?_eq_getElem hk'))⟩
 ·intro k y cs hy hcs
  have hk' : k < xs.length := by
   rcases Nat.lt_or_ge k xs.length with h | h
   ·exact h
   ·rw [List.getElem?_eq_none h] at hy; cases hy
  simp [List.getElem?_range hk'] at hcs
  subst hcs
  rw [hf k hk']
  exact (hk k hk').choose_spec.2.1 y hy
 ·intro j u hj
  refine ⟨_, rfl, ?_⟩
  have hall : ∀ x ∈ (List.range xs.length).map f, x.length = sz := by
   intro x hx
   simp only [List.mem_map, List.mem_range] at hx
   obtain ⟨k, hk', rfl⟩ := hx
   rw [hf k hk']; exact (hk k hk').choose_spec.1
  have hjl : j < xs.length * sz := by
   have := flatten_len sz _ hall
   rw [List.length_map, List.length_range] at this
   rw [← this]
   rcases Nat.lt_or_ge j ((List.range xs.length).map f).flatten.length with h | h
   ·exact h
   ·rw [List.getElem?_eq_none h] at hj; cases hj
  have hq : j / sz < xs.length := Nat.div_lt_of_lt_mul (by rw [Nat.mul_comm]; exact hjl)
  have hr : j % sz < sz := Nat.mod_lt _ h0
  have hjd : j / sz * sz + j % sz = j := Nat.div_add_mod' j sz
  have := flatten_get ((List.range xs.length).map f) sz (j / sz) (j % sz) (f (j / sz)) hall (by simp [List.getElem?_range hq]) hr
  rw [hjd, hj] at this
  rw [hf _ hq] at this
  have hc := (hk _ hq).choose_spec.2.2.at_ (j % sz) this.symm
  have hadd : (⟨g, o, none⟩ : Addr).add j = ⟨g, o + j / sz * sz + j % sz, none⟩ := by
   rw [Nat.add_assoc, hjd]; unfold Addr.add; split <;> simp_all
  rw [hadd]; exact hc
theorem run_append_src (w : World) {t ty e sz by_ base : Nat} {v : Value} {xs ys : List α} {A : Option Addr} {c : Nat} (hi : SlInfo P t e sz by_) (hR : Fair R)
  (hown : Own base e sz R T w v xs) (hsrc : Src sz R T w A ys) (hT : ∀ g, T g → g < w.heap.size) (hb : (xs.length + ys.length) * by_ ≤ 140737488355328) (hbase : base ≤ w.heap.size) :
  ∃ v' w', (Builtin.append_ #[t, t] ty #[v, .slice A ys.length c]).run P w = .ok v' w' ∧ Own base e sz R T w' v' (xs ++ ys) ∧ w.grownBy w' v.ownBlock ∧ (v'.ownBlock = v.ownBlock ∨ v'.ownBlock = some w.heap.size) := by
 obtain ⟨ht, h0, hby, i, z, hi1, hz, hs, hbb, hzs⟩ := hi
 obtain ⟨css, ho1, ho2, ho3, ho4⟩ := hown
 obtain ⟨ds, hd1, hd2, hd3, hd4⟩ := hsrc
 have hlen : ds.flatten.length = ys.length * sz := by rw [flatten_len sz ds (fun x hx => (hd2 x hx).1), hd1]
 have hone : ∀ u ∈ ds.flatten, u.oneCell' = true := by
  intro u hu
  obtain ⟨l, hl, hu⟩ := List.mem_flatten.1 hu
  exact (hd2 l hl).2 u hu
 have hle : xs.length + ys.length ≤ maxLen := by
  have : (xs.length + ys.length) * 1 ≤ (xs.length + ys.length) * by_ := Nat.mul_le_mul_left _ hby
  unfold maxLen; omega
 have fin : ∀ v' w', w'.ownsRow base e sz v' (xs.length + ys.length) (css.flatten ++ ds.flatten) → w.grownBy w' v.ownBlock → (v'.ownBlock = v.ownBlock ∨ v'.ownBlock = some w.heap.size) → Own base e sz R T w' v' (xs ++ ys) := by
  intro v' w' h1 h2 h3
  refine ⟨css ++ ds, by rw [List.length_append, List.flatten_append]; exact h1, by simp [ho2, hd1], ?_, ?_⟩
  ·intro k hk
   rcases h3 with h3 | h3
   ·exact ho3 k (h3 ▸ hk)
   ·rw [h3] at hk; simp at hk; subst hk
    intro hk; have := hT _ hk; omega
  ·intro k x cs hx hc
   have hkeep : Keep T w w' := Keep.of_grown h2 (fun k hk => ho3 k hk)
   by_cases hk : k < xs.length
   ·rw [List.getElem?_append_left hk] at hx
    rw [List.getElem?_append_left (by omega)] at hc
    exact ⟨(ho4 k x cs hx hc).1, hR.keep (ho4 k x cs hx hc).2 hkeep⟩
   ·rw [List.getElem?_append_right (by omega)] at hx
    rw [List.getElem?_append_right (by omega), ho2] at hc
    exact ⟨(hd2 cs (List.mem_of_getElem? hc)).1, hR.keep (hd3 _ x cs hx hc) hkeep⟩
 rcases A with _ | ad
 ·have hy : ys.length = 0 := by
   rcases Nat.eq_zero_or_pos ys.length with h | h
   ·exact h
   ·have hp : 0 < ds.flatten.length := by rw [hlen]; exact Nat.mul_pos h h0
    obtain ⟨ad, h, _⟩ := hd4 0 _ (List.getElem?_eq_getElem hp)
    cases h
  have hy' : ys = [] := List.eq_nil_of_length_eq_zero hy
  subst hy'
  have hr : (Builtin.append_ #[t, t] ty #[v, .slice none 0 c]).run P w = .ok v w := by
   rcases ho1.2 with ⟨rfl, hx0⟩ | ⟨g, cap, cur, rfl, _, _, hnc, _⟩
   ·simp [Builtin.append_, run_underlying ht, sizeOf, typeInfo, hi1, Builtin.lenOf, Builtin.firstCells]
   ·simp [Builtin.append_, run_underlying ht, sizeOf, typeInfo, hi1, Builtin.lenOf, Builtin.firstCells, hnc, storeCells]
  have hds : ds = [] := List.eq_nil_of_length_eq_zero (by simpa using hd1)
  subst hds
  exact ⟨v, w, by simpa using hr, by simpa using fin v w (by simpa using ho1) (World.grownBy.refl w _) (.inl rfl), World.grownBy.refl w _, .inl rfl⟩
 ·obtain ⟨v', w', hrun, h2, h3, _, h5⟩ := run_append_own_at (P := P) w base t ty e i z sz by_ ht hi1 hz hs hbb hzs h0 v xs.length css.flatten ho1 ad ys.length c ds.flatten hlen
   (fun j u hu => by obtain ⟨ad', h, hc⟩ := hd4 j u hu; cases h; exact hc) hone hle hb hbase
  exact ⟨v', w', hrun, fin v' w' h2 h3 h5, h3, h5⟩
theorem wl_append {ops : Array Oper} {rest : List Oper} {o : Oper} {a : Act} {Q : Exit → Act → World → Prop} (w : World) (hgd : o.guard = none) (s x : Operand) {t e sz by_ base : Nat} {v : Value} {xs ys : List α} {A : Option Addr} {c : Nat}
  (ho : o.op = .call { callee := .builtin .append, args := #[s, x], argTypes := #[t, t] }) (hi : SlInfo P t e sz by_) (hR : Fair R) (hs : a.eval s = v) (hx : a.eval x = .slice A ys.length c)
  (hown : Own base e sz R T w v xs) (hsrc : Src sz R T w A ys) (hT : ∀ g, T g → g < w.heap.size) (hb : (xs.length + ys.length) * by_ ≤ 140737488355328) (hbase : base ≤ w.heap.size)
  (h : ∀ v' w', Own base e sz R T w' v' (xs ++ ys) → w.grownBy w' v.ownBlock → (v'.ownBlock = v.ownBlock ∨ v'.ownBlock = some w.heap.size) → wpList P ops Q rest (a.put o.dst v') w') : wpList P ops Q (o :: rest) a w :=
 wpList_plain hgd fun _ hK => by
  obtain ⟨v', w', hrun, h2, h3, h4⟩ := run_append_src (P := P) w (ty := o.type) (c := c) hi hR hown hsrc hT hb hbase
  unfold Oper.wp execOp
  simp only [ho, resolve, invoke, builtin, Sem.run_bind, Sem.run_pure, Result.andThen_ok, List.map_toArray, List.map_cons, List.map_nil, hs, hx, hrun]
  exact hK _ _ (h v' w' h2 h3 h4)
theorem Own.read {base e sz by_ : Nat} {v : Value} {xs : List α} {S : Nat → Prop} (hR : Fair R) (h : Own base e sz R T w v xs) (hT : ∀ g, T g → g < w.heap.size → S g) (hv : ∀ k, v.ownBlock = some k → S k)
  (hcap : xs.length * by_ ≤ 140737488351232) : RSl sz by_ R S w [v] xs := by
 obtain ⟨css, h1, h2, h3, h4⟩ := h
 rcases h1.2 with ⟨rfl, hn⟩ | ⟨g, cap, cur, rfl, hb, hg, hnc, hcm, hcs, htk⟩
 ·have : xs = [] := List.eq_nil_of_length_eq_zero hn
  subst this; exact RSl.nil_
 ·refine ⟨_, cap, rfl, hnc, hcap, fun k x hx => ?_⟩
  have hk : k < xs.length := by
   rcases Nat.lt_or_ge k xs.length with h | h
   ·exact h
   ·rw [List.getElem?_eq_none h] at hx; cases hx
  have hc : css[k]? = some (css[k]'(by omega)) := List.getElem?_eq_getElem (by omega)
  obtain ⟨hl, hr⟩ := h4 k x _ hx hc
  refine ⟨g, 0, _, rfl, hv g rfl, (Array.getElem?_eq_some_iff.1 hg).1, hl, hR.mono hr hT, fun j hj => ?_⟩
  have hall : ∀ x ∈ css, x.length = sz := by
   intro c hc
   obtain ⟨i, hi, rfl⟩ := List.getElem_of_mem hc
   exact (h4 i (xs[i]'(by omega)) _ (List.getElem?_eq_getElem (by omega)) (List.getElem?_eq_getElem hi)).1
  have hfl := flatten_get css sz k j _ hall hc (by omega)
  have hv' : (css[k]'(by omega))[j]? = some ((css[k]'(by omega))[j]) := List.getElem?_eq_getElem hj
  rw [hv'] at hfl
  have := h1.cells (g := g) rfl (k * sz + j) _ hfl
  have hadd : (⟨g, 0, none⟩ : Addr).add (k * sz + j) = ⟨g, 0 + k * sz + j, none⟩ := by unfold Addr.add; split <;> simp_all
  rw [hadd] at this
  rw [this, hv']
end
def NoT : Nat → Prop := fun _ => False
theorem NoT.lt (w : World) : ∀ g, NoT g → g < w.heap.size := fun _ h => h.elim
def Ret (w : World) (v : Value) (e : Ending) (w' : World) : Prop := e = .returned v ∧ Below w.heap.size w w'
def Box (w : World) (g : Nat) (t : TypeId) (cs : List Value) : Prop := w.heap[g]? = some (.cells cs.toArray t (0, 0))
section
variable {w w' : World} {g : Nat} {t : TypeId} {cs : List Value}
theorem Box.lt (h : Box w g t cs) : g < w.heap.size := (Array.getElem?_eq_some_iff.1 h).1
theorem Box.cell (h : Box w g t cs) (i : Nat) : w.cell? ⟨g, i, none⟩ = cs[i]? := by rw [cell_of_row w g i cs.toArray t (0, 0) h]; simp
theorem Box.frozen (h : Box w g t cs) (i : Nat) : w.frozen? ⟨g, i, none⟩ = false := by unfold Box at h; simp [World.frozen?, h]
theorem Box.new (w : World) (t : TypeId) (cs : List Value) : Box (w.alloc (.cells cs.toArray t)) w.heap.size t cs := heap_alloc_new w _
theorem Box.keep {S : Nat → Prop} (h : Box w g t cs) (hk : Keep S w w') (hs : S g) : Box w' g t cs := (hk.2 g hs h.lt).trans h
theorem Box.below {B : Nat} (h : Box w g t cs) (hb : Below B w w') (hg : g < B) : Box w' g t cs := (hb.block g hg).trans h
theorem Box.grown {row : Option Nat} (h : Box w g t cs) (hb : w.grownBy w' row) (hg : row ≠ some g) : Box w' g t cs := (hb.block g h.lt (fun e => hg e.symm)).trans h
theorem Box.alloc (h : Box w g t cs) (o : Obj) : Box (w.alloc o) g t cs := (Below.heap_alloc w o g h.lt).trans h
theorem Box.set_ (h : Box w g t cs) (i : Nat) (u : Value) : Box (w.setCell ⟨g, i, none⟩ u) g t (cs.set i u) := by
 unfold Box at h ⊢
 simp [World.setCell, Array.getElem?_modify, h]
theorem Box.far (h : Box w g t cs) {p : Addr} (hp : g ≠ p.block) (u : Value) : Box (w.setCell p u) g t cs := (Below.heap_setCell w p u g hp).trans h
theorem Box.drew (h : Box w g t cs) : Box w.drew g t cs := h
theorem Box.drewN (h : Box w g t cs) (n : Nat) : Box (w.drewN n) g t cs := h
theorem Box.ne_own {α : Type} {R : Rel α} {base e sz : Nat} {T : Nat → Prop} {v : Value} {xs : List α} (h : Box w g t cs) (ho : Own base e sz R T w v xs) (hne : e ≠ t) : v.ownBlock ≠ some g := by
 obtain ⟨css, h1, _⟩ := ho
 rcases h1.2 with ⟨rfl, _⟩ | ⟨g', cap, cur, rfl, _, hh, _⟩
 ·simp [Value.ownBlock]
 ·intro he
  have : g' = g := by simpa [Value.ownBlock] using he
  subst this
  unfold Box at h
  rw [hh] at h
  injection h with h
  injection h with _ ht
  exact hne ht
end
theorem below_grown {B : Nat} {a b c : World} {row : Option Nat} (h : Below B a b) (k : b.grownBy c row) (hB : B ≤ b.heap.size) (hr : ∀ g, row = some g → B ≤ g) : Below B a c := h.grown k hB hr
theorem below_via {B : Nat} {a b c : World} (h : Below B a b) (k : Below b.heap.size b c) (hB : B ≤ b.heap.size) : Below B a c := h.trans (k.mono hB)
theorem Own.below {α : Type} {R : Rel α} {base e sz : Nat} {T : Nat → Prop} {w w' : World} {v : Value} {xs : List α} (hR : Fair R) (h : Own base e sz R T w v xs) (hb : Below w.heap.size w w') : Own base e sz R T w' v xs :=
 h.kept hR (row := none) (grown_below hb none) (by cases hv : v.ownBlock <;> simp) (by simp)
theorem Own.form {α : Type} {R : Rel α} {base e sz : Nat} {T : Nat → Prop} {w : World} {v : Value} {xs : List α} (h : Own base e sz R T w v xs) : ∃ A cap, v = .slice A xs.length cap ∧ xs.length ≤ cap := by
 obtain ⟨css, h1, _⟩ := h
 rcases h1.2 with ⟨rfl, h0⟩ | ⟨g, cap, cur, rfl, _, _, hc, _⟩
 ·exact ⟨none, 0, by rw [h0], by omega⟩
 ·exact ⟨_, cap, rfl, hc⟩
theorem Own.drew {α : Type} {R : Rel α} {base e sz : Nat} {T : Nat → Prop} {w : World} {v : Value} {xs : List α} (hR : Fair R) (h : Own base e sz R T w v xs) : Own base e sz R T w.drew v xs :=
 h.kept hR (row := none) ⟨rfl, rfl, rfl, Nat.le_refl _, fun _ _ _ => rfl⟩ (by cases hv : v.ownBlock <;> simp) (by simp)
theorem below_drew {B : Nat} {a w : World} (h : Below B a w) : Below B a w.drew := h.drew
theorem below_drewN {B : Nat} {a w : World} (h : Below B a w) (n : Nat) : Below B a (w.drewN n) := ⟨h.os, h.tape, h.output, h.size, h.block⟩
section
variable {α : Type} {P : Program} {R : Rel α} {T : Nat → Prop}
theorem wp_append {o : Oper} {a : Act} {K : Act → World → Prop} {Q : Exit → Act → World → Prop} (w : World) (s x : Operand) {t e sz by_ base : Nat} {v : Value} {xs ys : List α} {A : Option Addr} {c : Nat}
  (ho : o.op = .call { callee := .builtin .append, args := #[s, x], argTypes := #[t, t] }) (hi : SlInfo P t e sz by_) (hR : Fair R) (hs : a.eval s = v) (hx : a.eval x = .slice A ys.length c)
  (hown : Own base e sz R T w v xs) (hsrc : Src sz R T w A ys) (hT : ∀ g, T g → g < w.heap.size) (hb : (xs.length + ys.length) * by_ ≤ 140737488355328) (hbase : base ≤ w.heap.size)
  (h : ∀ v' w', Own base e sz R T w' v' (xs ++ ys) → w.grownBy w' v.ownBlock → (v'.ownBlock = v.ownBlock ∨ v'.ownBlock = some w.heap.size) → K (a.put o.dst v') w') : o.wp P a w K Q := by
 obtain ⟨v', w', hrun, h2, h3, h4⟩ := run_append_src (P := P) w (ty := o.type) (c := c) hi hR hown hsrc hT hb hbase
 unfold Oper.wp execOp
 simp only [ho, resolve, invoke, builtin, Sem.run_bind, Sem.run_pure, Result.andThen_ok, List.map_toArray, List.map_cons, List.map_nil, hs, hx, hrun]
 exact h v' w' h2 h3 h4
theorem step_append {ops : Array Oper} {o : Oper} {a : Act} {K : Act → World → Prop} {Q : Exit → Act → World → Prop} {E : Prop} (w : World) (hgd : o.guard = none) (s x : Operand) {t e sz by_ base : Nat} {v : Value} {xs ys : List α} {A : Option Addr} {c : Nat}
  (ho : o.op = .call { callee := .builtin .append, args := #[s, x], argTypes := #[t, t] }) (hi : SlInfo P t e sz by_) (hR : Fair R) (hs : a.eval s = v) (hx : a.eval x = .slice A ys.length c)
  (hown : Own base e sz R T w v xs) (hsrc : Src sz R T w A ys) (hT : ∀ g, T g → g < w.heap.size) (hb : (xs.length + ys.length) * by_ ≤ 140737488355328) (hbase : base ≤ w.heap.size)
  (h : ∀ v' w', Own base e sz R T w' v' (xs ++ ys) → w.grownBy w' v.ownBlock → (v'.ownBlock = v.ownBlock ∨ v'.ownBlock = some w.heap.size) → K (a.put o.dst v') w') :
  if Region.wanted o (yielded ops a.tmps) = true then Oper.wp P o a w K Q else E := by
 rw [if_pos (show Region.wanted o (yielded ops a.tmps) = true by simp [Region.wanted, hgd])]
 exact wp_append w s x ho hi hR hs hx hown hsrc hT hb hbase h
end
theorem RSl.of_box {α : Type} {sz by_ : Nat} {R : Rel α} {S : Nat → Prop} {w : World} {g e cap : Nat} {css : List (List Value)} {xs : List α} (h : Box w g e css.flatten) (hl : css.length = xs.length) (hs : S g) (hc : xs.length ≤ cap) (hb : xs.length * by_ ≤ 140737488351232)
  (hr : ∀ (k : Nat) (x : α) (cs : List Value), xs[k]? = some x → css[k]? = some cs → cs.length = sz ∧ R S w cs x) : RSl sz by_ R S w [.slice (some ⟨g, 0, none⟩) xs.length cap] xs := by
 refine ⟨_, cap, rfl, hc, hb, fun k x hx => ?_⟩
 have hk : k < xs.length := by
  rcases Nat.lt_or_ge k xs.length with h | h
  ·exact h
  ·rw [List.getElem?_eq_none h] at hx; cases hx
 have hcs : css[k]? = some (css[k]'(by omega)) := List.getElem?_eq_getElem (by omega)
 obtain ⟨h1, h2⟩ := hr k x _ hx hcs
 have hall : ∀ x ∈ css, x.length = sz := by
  intro c hc
  obtain ⟨i, hi, rfl⟩ := List.getElem_of_mem hc
  exact (hr i (xs[i]'(by omega)) _ (List.getElem?_eq_getElem (by omega)) (List.getElem?_eq_getElem hi)).1
 refine ⟨g, 0, _, rfl, hs, h.lt, h1, h2, fun j hj => ?_⟩
 have hfl := flatten_get css sz k j _ hall hcs (by omega)
 rw [show (0 + k * sz + j) = k * sz + j from by omega, h.cell, hfl]
theorem RSl.of_box_flat {α : Type} {sz by_ : Nat} {enc : α → List Value} {S : Nat → Prop} {w : World} {g e cap : Nat} {xs : List α} (h : Box w g e (xs.map enc).flatten) (hs : S g) (hc : xs.length ≤ cap) (hb : xs.length * by_ ≤ 140737488351232)
  (hr : ∀ x ∈ xs, (enc x).length = sz) : RSl sz by_ (RFlat enc) S w [.slice (some ⟨g, 0, none⟩) xs.length cap] xs :=
 RSl.of_box (css := xs.map enc) h (by simp) hs hc hb (fun k x cs hx hcs => by
  simp [List.getElem?_map, hx] at hcs
  subst hcs
  exact ⟨hr x (List.mem_of_getElem? hx), rfl⟩)
def Old (w : World) : Nat → Prop := fun g => g < w.heap.size
theorem Fair.old {α : Type} {R : Rel α} (hR : Fair R) {S : Nat → Prop} {w : World} {cs : List Value} {x : α} (h : R S w cs x) : R (Old w) w cs x := hR.mono h fun _ _ hg => hg
theorem Fair.below {α : Type} {R : Rel α} (hR : Fair R) {S : Nat → Prop} {w w' : World} {cs : List Value} {x : α} (h : R S w cs x) (hb : Below w.heap.size w w') : R S w' cs x := hR.keep h (Keep.of_below hb)
theorem Own.setCell {α : Type} {R : Rel α} {base e sz : Nat} {T : Nat → Prop} {w : World} {v : Value} {xs : List α} (hR : Fair R) (h : Own base e sz R T w v xs) {p : Addr} (u : Value) (hv : v.ownBlock ≠ some p.block) (hT : ¬ T p.block) : Own base e sz R T (w.setCell p u) v xs :=
 h.kept hR (row := some p.block) (grown_setCell (World.grownBy.refl _ _) (.inl rfl) u) (.inr hv) (by rintro k hk; cases hk; exact hT)
def strLen (w : World) (g : Nat) : Nat := match w.cell? ⟨g, 0, none⟩ with | some (.string s) => s.size | _ => 0
theorem strLen_of {w : World} {g : Nat} {s : ByteArray} (h : w.cell? ⟨g, 0, none⟩ = some (.string s)) : strLen w g = s.size := by unfold strLen; rw [h]
end Go.Proofs.YtfobdbhmfohfnaaGreatDoor
namespace Go.Proofs.YtfobdbhmfohfnaaGreatDoor
open Go.RowKit Go.Lib
abbrev bytes (s : ByteArray) : List UInt8 := s.data.toList
def RByte : Rel UInt8 := RFlat fun b => [.int .u8 b.toNat]
theorem RByte.fair : Fair RByte := RFlat.fair _
theorem bytes_extract (s : ByteArray) (a b : Nat) : bytes (s.extract a b) = ((bytes s).drop a).take (b - a) := by
 simp only [bytes, ByteArray.data_extract, Array.toList_extract]
theorem bytes_from (s : ByteArray) (a : Nat) : bytes (s.extract a s.size) = (bytes s).drop a := by
 rw [bytes_extract, List.take_of_length_le]
 simp [bytes]
theorem bytes_to (s : ByteArray) (b : Nat) : bytes (s.extract 0 b) = (bytes s).take b := by
 rw [bytes_extract]; simp
theorem ba_of {s : ByteArray} {l : List UInt8} (h : bytes s = l) : s = ⟨l.toArray⟩ := by
 subst h; obtain ⟨⟨l⟩⟩ := s; rfl
theorem bytes_append (a b : ByteArray) : bytes (a ++ b) = bytes a ++ bytes b := by simp [bytes]
theorem bytes_len (s : ByteArray) : (bytes s).length = s.size := rfl
theorem bytes_of (l : List UInt8) : bytes ⟨l.toArray⟩ = l := rfl
def byteV (b : UInt8) : Value := .int .u8 b.toNat
theorem flatten_one : ∀ xs : List UInt8, (xs.map fun b => [byteV b]).flatten = xs.map byteV
 | [] => rfl
 | x :: xs => by simp [flatten_one xs]
theorem own_bytes_cells {base e : Nat} {T : Nat → Prop} {w : World} {v : Value} {xs : List UInt8} (h : Own base e 1 RByte T w v xs) :
  w.ownsRow base e 1 v xs.length (xs.map byteV) ∧ (∀ k, v.ownBlock = some k → ¬ T k) := by
 obtain ⟨css, h1, h2, h3, h4⟩ := h
 have hf : css.flatten = xs.map byteV := by
  have : css = xs.map fun b => [byteV b] := by
   apply List.ext_getElem
   ·simp [h2]
   ·intro k hk1 hk2
    have := (h4 k (xs[k]'(by omega)) css[k] (List.getElem?_eq_getElem (by omega)) (List.getElem?_eq_getElem hk1)).2
    simp [RByte, RFlat] at this
    simp [this, byteV]
  rw [this, flatten_one]
 rw [hf] at h1
 exact ⟨h1, h3⟩
theorem own_bytes_of {base e : Nat} {T : Nat → Prop} {w : World} {v : Value} {xs : List UInt8} (h : w.ownsRow base e 1 v xs.length (xs.map byteV)) (h3 : ∀ k, v.ownBlock = some k → ¬ T k) : Own base e 1 RByte T w v xs := by
 refine ⟨xs.map fun b => [byteV b], ?_, by simp, h3, ?_⟩
 ·rw [flatten_one]; exact h
 ·intro k x cs hx hc
  simp [List.getElem?_map, hx] at hc
  subst hc
  exact ⟨rfl, rfl⟩
section
variable {P : Program} (w : World)
theorem run_append_str {t u ty e base : Nat} {T : Nat → Prop} {v : Value} {xs : List UInt8} (hi : SlInfo P t e 1 1) (hz : (P.info? e).bind (·.zero) = some (.int .u8 0)) (hu : P.underlying u = some .string)
  (hown : Own base e 1 RByte T w v xs) (s : ByteArray) (hT : ∀ g, T g → g < w.heap.size) (hb : xs.length + s.size ≤ 140737488355328) (hbase : base ≤ w.heap.size) :
  ∃ v' w', (Builtin.append_ #[t, u] ty #[v, .string s]).run P w = .ok v' w' ∧ Own base e 1 RByte T w' v' (xs ++ bytes s) ∧ w.grownBy w' v.ownBlock ∧ (v'.ownBlock = v.ownBlock ∨ v'.ownBlock = some w.heap.size) := by
 obtain ⟨ht, _, _, i, z, hi1, hz1, hs1, hby, hzs⟩ := hi
 have hz0 : z = .int .u8 0 := by
  rw [hi1] at hz
  simp [hz1] at hz
  exact hz
 subst hz0
 obtain ⟨h1, h3⟩ := own_bytes_cells hown
 have hsb : strCells s = (bytes s).map byteV := rfl
 have hsz : s.size = (bytes s).length := rfl
 have hml : xs.length + s.size ≤ maxLen := by unfold maxLen; omega
 have mk : ∀ v' w', w'.ownsRow base e 1 v' (xs.length + s.size) (xs.map byteV ++ strCells s) → (v'.ownBlock = v.ownBlock ∨ v'.ownBlock = some w.heap.size) → Own base e 1 RByte T w' v' (xs ++ bytes s) := by
  intro v' w' h h'
  refine own_bytes_of (by rw [List.length_append, List.map_append, ← hsz, ← hsb]; exact h) fun k hk => ?_
  rcases h' with h' | h'
  ·exact h3 k (h' ▸ hk)
  ·rw [h'] at hk; cases hk
   intro hk; have := hT _ hk; omega
 have grown : ∀ (old : Nat), old < xs.length + s.size → ∀ (row : Option Nat),
   (w.drew.alloc (.cells ((xs.map byteV).toArray ++ (strCells s).toArray ++ Builtin.zeroCells (Value.int .u8 0).cells (grownCap w (xs.length + s.size) old e - (xs.length + s.size))) e)).ownsRow base e 1
    (.slice (some ⟨w.heap.size, 0, none⟩) (xs.length + s.size) (grownCap w (xs.length + s.size) old e)) (xs.length + s.size) (xs.map byteV ++ strCells s) ∧
   w.grownBy (w.drew.alloc (.cells ((xs.map byteV).toArray ++ (strCells s).toArray ++ Builtin.zeroCells (Value.int .u8 0).cells (grownCap w (xs.length + s.size) old e - (xs.length + s.size))) e)) row := by
  intro old _ row
  have hge := grownCap_ge w (xs.length + s.size) old e
  have hlen : (xs.map byteV ++ strCells s).length = (xs.length + s.size) * 1 := by rw [List.length_append, strCells_length, List.length_map, Nat.mul_one]
  refine ⟨⟨hlen, .inr ⟨w.heap.size, _, _, rfl, hbase, heap_alloc_new w.drew _, hge, grownCap_le_maxLen w _ old e hml, ?_, ?_⟩⟩, ⟨rfl, rfl, rfl, by simp, fun k hk _ => Below.heap_alloc w.drew _ k hk⟩⟩
  ·have hz1 : (Value.int IntKind.u8 0).cells.size = 1 := rfl
   simp only [Array.size_append, List.size_toArray, size_zeroCells, hz1, strCells_length, List.length_map]
   omega
  ·simp only [Array.toList_append, List.append_assoc]
   rw [← List.append_assoc, ← hlen]
   exact List.take_left
 rcases h1.2 with ⟨rfl, hx0⟩ | ⟨g, cap, cur, rfl, hbg, hg, hnc, hcm, hcs, htake⟩
 ·have hx : xs = [] := List.eq_nil_of_length_eq_zero hx0
  subst hx
  by_cases hm : s.size = 0
  ·have hn : strCells s = [] := List.eq_nil_of_length_eq_zero (by rw [strCells_length]; exact hm)
   refine ⟨.slice none 0 0, w, ?_, mk _ _ (by rw [hm, hn]; exact World.ownsRow_nil w base e 1) (.inl rfl), World.grownBy.refl w _, .inl rfl⟩
   have hf := run_firstCells_string (P := P) w 1 s
   rw [hm] at hf
   simp [Builtin.append_, run_underlying ht, run_underlying hu, sizeOf, typeInfo, hi1, hs1, Builtin.lenOf, hm, hf]
  ·have hr := run_append_nil_string (P := P) w t u ty e i (.int .u8 0) ht hu hi1 hz1 s (by omega) (by omega) (by rw [hby]; simp at hb; omega)
   have hgr := grown 0 (by simp; omega) (Value.ownBlock (.slice none 0 0))
   simp only [List.length_nil, Nat.zero_add, List.nil_append, Array.empty_append, List.map_nil] at hgr
   have e1 : (s.data.map fun b => Value.int .u8 b.toNat) = (strCells s).toArray := by
    apply Array.ext'
    simp [strCells]
   rw [e1] at hr
   exact ⟨_, _, hr, mk _ _ (by simpa using hgr.1) (.inr rfl), hgr.2, .inr rfl⟩
 ·by_cases hroom : xs.length + s.size ≤ cap
  ·have hcs' : cur.size = cap := by simpa using hcs
   have hr := run_append_room_string (P := P) w t u ty e i ht hu hi1 hs1 g xs.length cap cur hg s hroom (by omega)
   refine ⟨_, _, hr, mk _ _ ⟨by rw [List.length_append, strCells_length, List.length_map, Nat.mul_one], .inr ⟨g, cap, _, rfl, hbg, setRow_heap w g cur _ e _ hg, hroom, hcm, ?_, ?_⟩⟩ (.inl rfl), ⟨rfl, rfl, rfl, by simp, fun k _ hk => setRow_other w g k _ (fun e => hk (by simp [Value.ownBlock, e]))⟩, .inl rfl⟩
   ·simp only [List.size_toArray, List.length_append, List.length_take, List.length_drop, Array.length_toList, strCells_length]
    omega
   ·have ht' : cur.toList.take xs.length = xs.map byteV := by simpa using htake
    have hlen : (xs.map byteV ++ strCells s).length = (xs.length + s.size) * 1 := by rw [List.length_append, strCells_length, List.length_map, Nat.mul_one]
    rw [ht', ← hlen]
    exact List.take_left
  ·have holds : ∀ j u, (xs.map byteV)[j]? = some u → w.cell? ((⟨g, 0, none⟩ : Addr).add j) = some u := h1.cells (g := g) rfl
   have hr := run_append_grow_string (P := P) w t u ty e i (.int .u8 0) ht hu hi1 hz1 ⟨g, 0, none⟩ xs.length cap (xs.map byteV) (by rw [hs1]; simp) holds s (by omega) (by omega) (by rw [hby]; exact growslice_fits (by omega) (by omega))
   have hgr := grown cap (by omega) (Value.ownBlock (.slice (some ⟨g, 0, none⟩) xs.length cap))
   exact ⟨_, _, hr, mk _ _ hgr.1 (.inr rfl), hgr.2, .inr rfl⟩
theorem wl_append_str {ops : Array Oper} {rest : List Oper} {o : Oper} {a : Act} {Q : Exit → Act → World → Prop} (w : World) (hgd : o.guard = none) (sl x : Operand) {t u e base : Nat} {T : Nat → Prop} {v : Value} {xs : List UInt8} {s : ByteArray}
  (ho : o.op = .call { callee := .builtin .append, args := #[sl, x], argTypes := #[t, u] }) (hi : SlInfo P t e 1 1) (hz : (P.info? e).bind (·.zero) = some (.int .u8 0)) (hu : P.underlying u = some .string) (hs : a.eval sl = v) (hx : a.eval x = .string s)
  (hown : Own base e 1 RByte T w v xs) (hT : ∀ g, T g → g < w.heap.size) (hb : xs.length + s.size ≤ 140737488355328) (hbase : base ≤ w.heap.size)
  (h : ∀ v' w', Own base e 1 RByte T w' v' (xs ++ bytes s) → w.grownBy w' v.ownBlock → (v'.ownBlock = v.ownBlock ∨ v'.ownBlock = some w.heap.size) → wpList P ops Q rest (a.put o.dst v') w') : wpList P ops Q (o :: rest) a w :=
 wpList_plain hgd fun _ hK => by
  obtain ⟨v', w', hrun, h2, h3, h4⟩ := run_append_str (P := P) w (ty := o.type) hi hz hu hown s hT hb hbase
  unfold Oper.wp execOp
  simp only [ho, resolve, invoke, builtin, Sem.run_bind, Sem.run_pure, Result.andThen_ok, List.map_toArray, List.map_cons, List.map_nil, hs, hx, hrun]
  exact hK _ _ (h v' w' h2 h3 h4)
theorem step_append_str {ops : Array Oper} {o : Oper} {a : Act} {K : Act → World → Prop} {Q : Exit → Act → World → Prop} {E : Prop} (w : World) (hgd : o.guard = none) (sl x : Operand) {t u e base : Nat} {T : Nat → Prop} {v : Value} {xs : List UInt8} {s : ByteArray}
  (ho : o.op = .call { callee := .builtin .append, args := #[sl, x], argTypes := #[t, u] }) (hi : SlInfo P t e 1 1) (hz : (P.info? e).bind (·.zero) = some (.int .u8 0)) (hu : P.underlying u = some .string) (hs : a.eval sl = v) (hx : a.eval x = .string s)
  (hown : Own base e 1 RByte T w v xs) (hT : ∀ g, T g → g < w.heap.size) (hb : xs.length + s.size ≤ 140737488355328) (hbase : base ≤ w.heap.size)
  (h : ∀ v' w', Own base e 1 RByte T w' v' (xs ++ bytes s) → w.grownBy w' v.ownBlock → (v'.ownBlock = v.ownBlock ∨ v'.ownBlock = some w.heap.size) → K (a.put o.dst v') w') :
  if Region.wanted o (yielded ops a.tmps) = true then Oper.wp P o a w K Q else E := by
 rw [if_pos (show Region.wanted o (yielded ops a.tmps) = true by simp [Region.wanted, hgd])]
 obtain ⟨v', w', hrun, h2, h3, h4⟩ := run_append_str (P := P) w (ty := o.type) hi hz hu hown s hT hb hbase
 unfold Oper.wp execOp
 simp only [ho, resolve, invoke, builtin, Sem.run_bind, Sem.run_pure, Result.andThen_ok, List.map_toArray, List.map_cons, List.map_nil, hs, hx, hrun]
 exact h v' w' h2 h3 h4
theorem foldl_push (xs : List UInt8) : ∀ s : ByteArray, (xs.map fun b => (b.toNat : Int)).foldl (fun r n => r.push (UInt8.ofNat n.toNat)) s = ⟨(s.data.toList ++ xs).toArray⟩ := by
 induction xs with
 | nil => intro s; simp
 | cons x xs ih =>
  intro s
  simp only [List.map_cons, List.foldl_cons]
  rw [ih]
  congr 1
  simp [ByteArray.push]
theorem run_string_of {t u e base : Nat} {T : Nat → Prop} {v : Value} {xs : List UInt8} (ht : P.underlying t = some (.slice e)) (he : P.underlying e = some (.int .u8)) (hu : P.underlying u = some .string)
  (hown : Own base e 1 RByte T w v xs) : (convert t u v).run P w = .ok (.string ⟨xs.toArray⟩) w := by
 obtain ⟨h1, _⟩ := own_bytes_cells hown
 rcases h1.2 with ⟨rfl, hx0⟩ | ⟨g, cap, cur, rfl, hbg, hg, hnc, hcm, hcs, htake⟩
 ·have hx : xs = [] := List.eq_nil_of_length_eq_zero hx0
  subst hx
  rw [run_convert_bytes_string w t u e _ _ _ ht he hu]
  rfl
 ·rw [run_convert_bytes_string w t u e _ _ _ ht he hu, run_bytesToString w _ _ _ (xs.map fun b => (b.toNat : Int)), foldl_push]
  ·simp
  ·have := run_loadCells_list (P := P) (w := w) ⟨g, 0, none⟩ (xs.map byteV) (h1.cells (g := g) rfl)
   rw [List.map_map]
   rw [List.length_map] at this
   exact this
end
end Go.Proofs.YtfobdbhmfohfnaaGreatDoor
namespace Go.Proofs.YtfobdbhmfohfnaaGreatDoor
open Go.RowKit
def setCells (w : World) (g : Nat) : Nat → List Value → World
 | _, [] => w
 | i, v :: vs => setCells (w.setCell ⟨g, i, none⟩ v) g (i + 1) vs
theorem Box.setCells_aux {g : Nat} {t : TypeId} : ∀ (bs : List Value) (i : Nat) (w : World) (as cs : List Value), as.length = i → Box w g t (as ++ cs) → bs.length = cs.length → Box (setCells w g i bs) g t (as ++ bs)
 | [], i, w, as, cs, _, h, hl => by
  have : cs = [] := List.eq_nil_of_length_eq_zero (by simpa using hl.symm)
  subst this; exact h
 | b :: bs, i, w, as, [], _, _, hl => by simp at hl
 | b :: bs, i, w, as, c :: cs, hi, h, hl => by
  have h1 := h.set_ i b
  have e : (as ++ c :: cs).set i b = as ++ b :: cs := by subst hi; simp
  rw [e] at h1
  have := Box.setCells_aux bs (i + 1) (w.setCell ⟨g, i, none⟩ b) (as ++ [b]) cs (by simp [hi]) (by simpa using h1) (by simpa using hl)
  simpa [setCells] using this
theorem Box.setCells {w : World} {g : Nat} {t : TypeId} {cs : List Value} (h : Box w g t cs) (bs : List Value) (hl : bs.length = cs.length) : Box (setCells w g 0 bs) g t bs := by
 have := Box.setCells_aux bs 0 w [] cs rfl (by simpa using h) hl
 simpa using this
theorem below_setCells {B g : Nat} {a : World} (hg : B ≤ g) : ∀ (bs : List Value) (i : Nat) (w : World), Below B a w → Below B a (setCells w g i bs)
 | [], _, _, h => h
 | b :: bs, i, w, h => below_setCells hg bs (i + 1) _ (h.setCell (p := ⟨g, i, none⟩) hg b)
theorem Below.here (w : World) : Below w.heap.size w w := Below.refl _ _
theorem ret_b {a b : Bool} (h : a = b) : Ending.returned (.bool a) = .returned (.bool b) := by rw [h]
theorem ret_i {a b : Int} (h : a = b) : Ending.returned (.int .i64 a) = .returned (.int .i64 b) := by rw [h]
section
variable {α : Type} {sz by_ : Nat} {R : Rel α} {S : Nat → Prop} {w : World} {xs : List α}
theorem RSl.base {A : Option Addr} {n cap : Nat} (h : RSl sz by_ R S w [.slice A n cap] xs) (h0 : 0 < xs.length) : ∃ g o, A = some ⟨g, o, none⟩ ∧ S g ∧ g < w.heap.size := by
 obtain ⟨g, o, es, h1, h2, h3, _⟩ := h.at_ h0
 exact ⟨g, o, h1, h2, h3⟩
theorem RSl.lies {g o n cap : Nat} (h : RSl sz by_ R S w [.slice (some ⟨g, o, none⟩) n cap] xs) {k : Nat} (hk : k < xs.length) : ∃ es, es.length = sz ∧ R S w es xs[k] ∧ Lies w g (o + k * sz) es := by
 obtain ⟨g', o', es, h1, _, _, h4, h5, h6⟩ := h.at_ hk
 simp only [Option.some.injEq, Addr.mk.injEq, and_true] at h1
 obtain ⟨rfl, rfl⟩ := h1
 exact ⟨es, h4, h5, h6⟩
theorem RSl.flat {enc : α → List Value} {g o n cap : Nat} (h : RSl sz by_ (RFlat enc) S w [.slice (some ⟨g, o, none⟩) n cap] xs) {k : Nat} (hk : k < xs.length) : Lies w g (o + k * sz) (enc xs[k]) := by
 obtain ⟨es, _, h2, h3⟩ := h.lies hk
 have h2' : es = enc xs[k] := h2
 rw [h2'] at h3
 exact h3
end
end Go.Proofs.YtfobdbhmfohfnaaGreatDoor
namespace Go.Proofs.YtfobdbhmfohfnaaGreatDoor
open Go.RowKit
structure FieldD where
 id : Int
 name : ByteArray
 type : ByteArray
 kind : Int
 rule : Int
 deriving DecidableEq
structure ItemD where
 name : ByteArray
 n : Int
 deriving DecidableEq
structure TypeD where
 name : ByteArray
 enum : Bool
 fields : List FieldD
 gone : List Int
 items : List ItemD
 deriving DecidableEq
def TypeD.zero : TypeD := ⟨⟨#[]⟩, false, [], [], []⟩
def FieldD.zero : FieldD := ⟨0, ⟨#[]⟩, ⟨#[]⟩, 0, 0⟩
abbrev BookD := List TypeD
def fieldCells (f : FieldD) : List Value := [.int .i64 f.id, .string f.name, .string f.type, .int .i64 f.kind, .int .i64 f.rule]
def RField : Rel FieldD := RFlat fieldCells
theorem RField.fair : Fair RField := RFlat.fair _
def itemCells (x : ItemD) : List Value := [.string x.name, .int .i64 x.n]
def RItem : Rel ItemD := RFlat itemCells
theorem RItem.fair : Fair RItem := RFlat.fair _
def RType : Rel TypeD := fun S w cs t => ∃ vf vg vi, cs = [.string t.name, .bool t.enum, vf, vg, vi] ∧ RSl 5 56 RField S w [vf] t.fields ∧ RSl 1 8 RInt S w [vg] t.gone ∧ RSl 2 24 RItem S w [vi] t.items
theorem RType.fair : Fair RType := ⟨by
  rintro S w w' cs t ⟨vf, vg, vi, h, a, b, c⟩ hk
  exact ⟨vf, vg, vi, h, (RSl.fair RField.fair).keep a hk, (RSl.fair RInt.fair).keep b hk, (RSl.fair RItem.fair).keep c hk⟩, by
  rintro S T w cs t ⟨vf, vg, vi, h, a, b, c⟩ hk
  exact ⟨vf, vg, vi, h, (RSl.fair RField.fair).mono a hk, (RSl.fair RInt.fair).mono b hk, (RSl.fair RItem.fair).mono c hk⟩⟩
theorem RType.zero {S : Nat → Prop} {w : World} : RType S w [.string ⟨#[]⟩, .bool false, .slice none 0 0, .slice none 0 0, .slice none 0 0] .zero :=
 ⟨_, _, _, rfl, RSl.nil_, RSl.nil_, RSl.nil_⟩
theorem RType.parts {S : Nat → Prop} {w : World} {cs : List Value} {t : TypeD} (h : RType S w cs t) :
  ∃ A1 c1 A2 c2 A3 c3, cs = [.string t.name, .bool t.enum, .slice A1 t.fields.length c1, .slice A2 t.gone.length c2, .slice A3 t.items.length c3] ∧
   RSl 5 56 RField S w [.slice A1 t.fields.length c1] t.fields ∧ RSl 1 8 RInt S w [.slice A2 t.gone.length c2] t.gone ∧ RSl 2 24 RItem S w [.slice A3 t.items.length c3] t.items := by
 obtain ⟨vf, vg, vi, rfl, a, b, c⟩ := h
 obtain ⟨A1, c1, rfl, _, _⟩ := a.form
 obtain ⟨A2, c2, rfl, _, _⟩ := b.form
 obtain ⟨A3, c3, rfl, _, _⟩ := c.form
 exact ⟨A1, c1, A2, c2, A3, c3, rfl, a, b, c⟩
def findT (b : BookD) (name : ByteArray) : Option TypeD := b.find? fun t => decide (t.name = name)
def fieldOf (t : TypeD) (id : Int) : Option FieldD := t.fields.find? fun f => decide (f.id = id)
theorem ba_eq (a b : ByteArray) : (a.toList == b.toList) = decide (a = b) := by
 rw [ByteArray.toList_eq, ByteArray.toList_eq, Bool.eq_iff_iff]
 obtain ⟨⟨a⟩⟩ := a
 obtain ⟨⟨b⟩⟩ := b
 simp
end Go.Proofs.YtfobdbhmfohfnaaGreatDoor
namespace Go.Proofs.YtfobdbhmfohfnaaGreatDoor
open Go.RowKit
theorem Box.farCells {g g' : Nat} {t : TypeId} {cs : List Value} (hg : g ≠ g') : ∀ (bs : List Value) (i : Nat) {w : World}, Box w g t cs → Box (Go.Proofs.YtfobdbhmfohfnaaGreatDoor.setCells w g' i bs) g t cs
 | [], _, _, h => h
 | b :: bs, i, _, h => Box.farCells hg bs (i + 1) (h.far (p := ⟨g', i, none⟩) hg b)
theorem Box.five {w : World} {g : Nat} {t : TypeId} {a b c d e : Value} (h : Box w g t [a, b, c, d, e]) :
  w.cell? ⟨g, 0, none⟩ = some a ∧ w.cell? ⟨g, 1, none⟩ = some b ∧ w.cell? ⟨g, 2, none⟩ = some c ∧ w.cell? ⟨g, 3, none⟩ = some d ∧ w.cell? ⟨g, 4, none⟩ = some e :=
 ⟨h.cell 0, h.cell 1, h.cell 2, h.cell 3, h.cell 4⟩
theorem Box.newB {B : Nat} {a w : World} (_ : Below B a w) (t : TypeId) (cs : List Value) : Box (w.alloc (.cells cs.toArray t)) w.heap.size t cs := Box.new w t cs
theorem Box.grownR {α : Type} {R : Rel α} {base e sz g : Nat} {T : Nat → Prop} {w w' : World} {v : Value} {xs : List α} {t : TypeId} {cs : List Value} (h : Box w g t cs) (ho : Own base e sz R T w v xs) (hc : g < base ∨ e ≠ t) (hg : w.grownBy w' v.ownBlock) : Box w' g t cs :=
 h.grown hg (by
  rcases hc with hc | hc
  ·intro e; have := (ho.lt e).1; omega
  ·exact h.ne_own ho hc)
theorem Box.lies {w : World} {g : Nat} {t : TypeId} {cs : List Value} (h : Box w g t cs) : Lies w g 0 cs := fun j _ => by rw [Nat.zero_add]; exact h.cell j
theorem Keep.setCells {S : Nat → Prop} {g : Nat} (hg : ¬ S g) : ∀ (vs : List Value) (i : Nat) (w : World), Keep S w (setCells w g i vs)
 | [], _, w => Keep.refl _ _
 | v :: vs, i, w => (Keep.setCell (S := S) w (a := ⟨g, i, none⟩) v hg).trans (Keep.setCells hg vs (i + 1) _)
section
variable (w : World) (a b c d : List Value) (ta tb tc td : TypeId)
theorem boxes1 : Box (w.alloc (.cells a.toArray ta)) w.heap.size ta a ∧ Below w.heap.size w (w.alloc (.cells a.toArray ta)) :=
 ⟨Box.new w ta a, (Below.refl _ _).alloc (Nat.le_refl _) _⟩
theorem boxes2 : Box ((w.alloc (.cells a.toArray ta)).alloc (.cells b.toArray tb)) w.heap.size ta a ∧ Box ((w.alloc (.cells a.toArray ta)).alloc (.cells b.toArray tb)) (w.heap.size + 1) tb b ∧
  Below w.heap.size w ((w.alloc (.cells a.toArray ta)).alloc (.cells b.toArray tb)) := by
 obtain ⟨h1, h2⟩ := boxes1 w a ta
 refine ⟨h1.alloc _, ?_, h2.alloc h2.size _⟩
 have := Box.new (w.alloc (.cells a.toArray ta)) tb b
 simpa using this
theorem boxes3 : Box (((w.alloc (.cells a.toArray ta)).alloc (.cells b.toArray tb)).alloc (.cells c.toArray tc)) w.heap.size ta a ∧ Box (((w.alloc (.cells a.toArray ta)).alloc (.cells b.toArray tb)).alloc (.cells c.toArray tc)) (w.heap.size + 1) tb b ∧
  Box (((w.alloc (.cells a.toArray ta)).alloc (.cells b.toArray tb)).alloc (.cells c.toArray tc)) (w.heap.size + 1 + 1) tc c ∧ Below w.heap.size w (((w.alloc (.cells a.toArray ta)).alloc (.cells b.toArray tb)).alloc (.cells c.toArray tc)) := by
 obtain ⟨h1, h2, h3⟩ := boxes2 w a b ta tb
 refine ⟨h1.alloc _, h2.alloc _, ?_, h3.alloc h3.size _⟩
 have := Box.new ((w.alloc (.cells a.toArray ta)).alloc (.cells b.toArray tb)) tc c
 simpa using this
theorem boxes4 : Box ((((w.alloc (.cells a.toArray ta)).alloc (.cells b.toArray tb)).alloc (.cells c.toArray tc)).alloc (.cells d.toArray td)) w.heap.size ta a ∧ Box ((((w.alloc (.cells a.toArray ta)).alloc (.cells b.toArray tb)).alloc (.cells c.toArray tc)).alloc (.cells d.toArray td)) (w.heap.size + 1) tb b ∧
  Box ((((w.alloc (.cells a.toArray ta)).alloc (.cells b.toArray tb)).alloc (.cells c.toArray tc)).alloc (.cells d.toArray td)) (w.heap.size + 1 + 1) tc c ∧ Box ((((w.alloc (.cells a.toArray ta)).alloc (.cells b.toArray tb)).alloc (.cells c.toArray tc)).alloc (.cells d.toArray td)) (w.heap.size + 1 + 1 + 1) td d ∧
  Below w.heap.size w ((((w.alloc (.cells a.toArray ta)).alloc (.cells b.toArray tb)).alloc (.cells c.toArray tc)).alloc (.cells d.toArray td)) := by
 obtain ⟨h1, h2, h3, h4⟩ := boxes3 w a b c ta tb tc
 refine ⟨h1.alloc _, h2.alloc _, h3.alloc _, ?_, h4.alloc h4.size _⟩
 have := Box.new (((w.alloc (.cells a.toArray ta)).alloc (.cells b.toArray tb)).alloc (.cells c.toArray tc)) td d
 simpa using this
end
end Go.Proofs.YtfobdbhmfohfnaaGreatDoor
namespace Go.Proofs.YtfobdbhmfohfnaaGreatDoor
def hasS (l : List ByteArray) (x : ByteArray) : Bool := l.any fun y => decide (y = x)
def idxS (l : List ByteArray) (x : ByteArray) : Int := if hasS l x then ((l.findIdx fun y => decide (y = x) : Nat) : Int) else -1
theorem idxS_hit {l : List ByteArray} {x : ByteArray} {k : Nat} (hk : k < l.length) (h : l[k] = x) (hn : ∀ j (hj : j < k), l[j] ≠ x) : idxS l x = k := by
 have hm : hasS l x = true := List.any_eq_true.2 ⟨l[k], List.getElem_mem hk, by simpa using h⟩
 rw [idxS, if_pos hm]
 congr 1
 rw [List.findIdx_eq hk]
 exact ⟨by simpa using h, fun j hj => by simpa using hn j hj⟩
theorem idxS_none {l : List ByteArray} {x : ByteArray} (hn : ∀ j (hj : j < l.length), l[j] ≠ x) : idxS l x = -1 := by
 rw [idxS, if_neg]
 intro hm
 obtain ⟨y, hy, e⟩ := List.any_eq_true.1 hm
 obtain ⟨j, hj, rfl⟩ := List.getElem_of_mem hy
 exact hn j hj (by simpa using e)
theorem idxS_has (l : List ByteArray) (x : ByteArray) : decide (idxS l x ≥ 0) = hasS l x := by
 unfold idxS
 cases hasS l x <;> simp
def wordsL : List ByteArray := [⟨#[98, 111, 111, 108]⟩, ⟨#[101, 110, 117, 109]⟩, ⟨#[103, 111, 110, 101]⟩, ⟨#[105, 110, 116]⟩, ⟨#[109, 97, 110, 121]⟩, ⟨#[109, 97, 121, 98, 101]⟩, ⟨#[109, 101, 115, 115, 97, 103, 101]⟩, ⟨#[111, 110, 101]⟩, ⟨#[116, 101, 120, 116]⟩]
def namedF (s : ByteArray) : Bool := (bytes s).all (fun c => decide (97 ≤ c.toNat ∧ c.toNat ≤ 122)) && decide (1 ≤ s.size ∧ s.size ≤ 12) && !hasS wordsL s
def leastGo (rec : ByteArray → Nat) : List FieldD → Nat → Nat
 | [], n => n
 | f :: l, n => if f.rule = 1 then (if f.kind = 5 then (if rec f.type = 0 then 0 else leastGo rec l (n + rec f.type)) else leastGo rec l (n + 1)) else leastGo rec l n
def leastF (b : BookD) : Nat → ByteArray → Nat
 | 0, _ => 0
 | left + 1, name => match findT b name with
  | none => 0
  | some t => if t.enum = true ∨ 5 < t.fields.length then 0 else leastGo (leastF b left) t.fields 1
theorem leastGo_le {rec : ByteArray → Nat} {m : Nat} (hm : ∀ x, rec x ≤ m) (h1 : 1 ≤ m) : ∀ (l : List FieldD) (n : Nat), leastGo rec l n ≤ n + l.length * m
 | [], n => by simp [leastGo]
 | f :: l, n => by
  have e : (f :: l).length * m = l.length * m + m := by rw [List.length_cons, Nat.add_mul, Nat.one_mul]
  have hf := hm f.type
  have a := leastGo_le hm h1 l n
  have b := leastGo_le hm h1 l (n + 1)
  have c := leastGo_le hm h1 l (n + rec f.type)
  rw [leastGo, e]
  split
  ·split
   ·split <;> omega
   ·omega
  ·omega
theorem leastF_le (b : BookD) : ∀ (left : Nat) (name : ByteArray), leastF b left name ≤ 6 ^ left
 | 0, _ => by simp [leastF]
 | left + 1, name => by
  have hp : 1 ≤ 6 ^ left := Nat.pow_pos (by decide)
  rw [leastF, Nat.pow_succ]
  split
  ·exact Nat.zero_le _
  ·rename_i t _
   split
   ·exact Nat.zero_le _
   ·rename_i h
    have := leastGo_le (leastF_le b left) hp t.fields 1
    have h5 : t.fields.length * 6 ^ left ≤ 5 * 6 ^ left := Nat.mul_le_mul_right _ (by omega)
    omega
theorem leastF_216 (b : BookD) {left : Nat} (h : left ≤ 3) (name : ByteArray) : leastF b left name ≤ 216 :=
 Nat.le_trans (leastF_le b left name) (Nat.le_trans (Nat.pow_le_pow_right (by decide) h) (by decide))
def meansF (t : TypeD) (n : Int) : Bool := t.items.any fun x => decide (x.n = n)
def EnumP (t : TypeD) : Prop :=
 (∀ i (h : i < t.items.length), namedF t.items[i].name = true ∧ -1099511627776 ≤ t.items[i].n ∧ t.items[i].n ≤ 1099511627776 ∧ (∀ (_ : 0 < i), t.items[i - 1].n < t.items[i].n) ∧ ∀ j (_ : j < i), t.items[i].name ≠ t.items[j].name) ∧
  1 ≤ t.items.length ∧ t.items.length ≤ 6 ∧ t.fields.length = 0 ∧ t.gone.length = 0
instance (t : TypeD) : Decidable (EnumP t) := by unfold EnumP; infer_instance
def enumF (t : TypeD) : Bool := decide (EnumP t)
def kindP (b : BookD) (f : FieldD) : Prop := (f.kind < 4 → f.type.size = 0) ∧ (4 ≤ f.kind → (findT b f.type).isSome = true ∧ ((findT b f.type).getD .zero).enum = decide (f.kind = 4))
instance (b : BookD) (f : FieldD) : Decidable (kindP b f) := by unfold kindP; infer_instance
def fieldP (b : BookD) (f : FieldD) : Prop := namedF f.name = true ∧ 1 ≤ f.id ∧ f.id ≤ 30 ∧ 1 ≤ f.kind ∧ f.kind ≤ 5 ∧ 1 ≤ f.rule ∧ f.rule ≤ 3 ∧ kindP b f
instance (b : BookD) (f : FieldD) : Decidable (fieldP b f) := by unfold fieldP; infer_instance
def GoneP (t : TypeD) : Prop := ∀ i (h : i < t.gone.length), (fieldOf t t.gone[i]).isSome = false ∧ 1 ≤ t.gone[i] ∧ t.gone[i] ≤ 30 ∧ ∀ (_ : 0 < i), t.gone[i - 1] < t.gone[i]
instance (t : TypeD) : Decidable (GoneP t) := by unfold GoneP; infer_instance
def FieldsP (b : BookD) (t : TypeD) : Prop := ∀ i (h : i < t.fields.length), fieldP b t.fields[i] ∧ (∀ (_ : 0 < i), t.fields[i - 1].id < t.fields[i].id) ∧ ∀ j (_ : j < i), t.fields[i].name ≠ t.fields[j].name
instance (b : BookD) (t : TypeD) : Decidable (FieldsP b t) := by unfold FieldsP; infer_instance
def MessageP (b : BookD) (t : TypeD) : Prop := t.fields.length ≤ 5 ∧ t.items.length = 0 ∧ t.gone.length ≤ 30 ∧ GoneP t ∧ FieldsP b t
instance (b : BookD) (t : TypeD) : Decidable (MessageP b t) := by unfold MessageP; infer_instance
def messageF (b : BookD) (t : TypeD) : Bool := decide (MessageP b t)
def ltS (a b : ByteArray) : Prop := Op.bytesLess a.toList b.toList = true
instance (a b : ByteArray) : Decidable (ltS a b) := by unfold ltS; infer_instance
def TypesP (b : BookD) : Prop := ∀ i (h : i < b.length), namedF b[i].name = true ∧ (∀ (_ : 0 < i), ltS b[i - 1].name b[i].name) ∧ (if b[i].enum = true then enumF b[i] = true else messageF b b[i] = true)
instance (b : BookD) : Decidable (TypesP b) := by unfold TypesP; infer_instance
def LeastP (b : BookD) : Prop := ∀ i (h : i < b.length), b[i].enum = false → 1 ≤ leastF b 4 b[i].name ∧ leastF b 4 b[i].name ≤ 12
instance (b : BookD) : Decidable (LeastP b) := by unfold LeastP; infer_instance
def goodF (b : BookD) : Int := if 4 < b.length then 7 else if ¬ TypesP b then 1 else if ¬ LeastP b then 7 else 0
end Go.Proofs.YtfobdbhmfohfnaaGreatDoor
namespace Go.Proofs.YtfobdbhmfohfnaaGreatDoor
def isLet (c : UInt8) : Bool := decide (97 ≤ c.toNat ∧ c.toNat ≤ 122)
def isDig (c : UInt8) : Bool := decide (48 ≤ c.toNat ∧ c.toNat ≤ 57)
def isWhite (c : UInt8) : Bool := decide (c.toNat = 32 ∨ c.toNat = 10 ∨ c.toNat = 9 ∨ c.toNat = 13)
def isSign (c : UInt8) : Bool := decide (c.toNat = 123 ∨ c.toNat = 125 ∨ c.toNat = 59)
def splitF : Nat → List UInt8 → Option (List ByteArray)
 | 0, _ => some []
 | _ + 1, [] => some []
 | k + 1, c :: l =>
  if isWhite c then splitF k l
  else if isSign c then (splitF k l).map (⟨#[c]⟩ :: ·)
  else if isLet c then (splitF k (l.dropWhile isLet)).map (⟨(c :: l.takeWhile isLet).toArray⟩ :: ·)
  else if decide (c.toNat = 45) || isDig c then (splitF k (l.dropWhile isDig)).map (⟨(c :: l.takeWhile isDig).toArray⟩ :: ·)
  else none
structure Rd where
 l : List ByteArray
 bad : Bool
def Rd.next (r : Rd) : ByteArray × Rd := match r.l with
 | [] => (⟨#[]⟩, ⟨[], true⟩)
 | s :: l => (s, ⟨l, r.bad⟩)
def Rd.take (r : Rd) (s : ByteArray) : Rd := if r.next.1 = s then r.next.2 else ⟨r.next.2.l, true⟩
def Rd.at_ (r : Rd) (s : ByteArray) : Bool := match r.l with
 | [] => false
 | x :: _ => decide (x = s)
def isW (s : ByteArray) : Bool := match bytes s with
 | [] => false
 | c :: _ => isLet c
def Rd.word (r : Rd) : ByteArray × Rd := (r.next.1, if isW r.next.1 then r.next.2 else ⟨r.next.2.l, true⟩)
def numW (s : ByteArray) : Option Int := match Lib.atoiAll (bytes s) with
 | .ok n => if Lib.itoa n = bytes s ∧ -1099511627776 ≤ n ∧ n ≤ 1099511627776 then some n else none
 | _ => none
def Rd.number (r : Rd) : Int × Rd := match numW r.next.1 with
 | some n => (n, r.next.2)
 | none => (0, ⟨r.next.2.l, true⟩)
def wOpen : ByteArray := ⟨#[123]⟩
def wShut : ByteArray := ⟨#[125]⟩
def wEnd : ByteArray := ⟨#[59]⟩
def wGone : ByteArray := ⟨#[103, 111, 110, 101]⟩
def wMessage : ByteArray := ⟨#[109, 101, 115, 115, 97, 103, 101]⟩
def wEnum : ByteArray := ⟨#[101, 110, 117, 109]⟩
def wBool : ByteArray := ⟨#[98, 111, 111, 108]⟩
def wInt : ByteArray := ⟨#[105, 110, 116]⟩
def wText : ByteArray := ⟨#[116, 101, 120, 116]⟩
def wOne : ByteArray := ⟨#[111, 110, 101]⟩
def wMaybe : ByteArray := ⟨#[109, 97, 121, 98, 101]⟩
def wMany : ByteArray := ⟨#[109, 97, 110, 121]⟩
def kindsL : List ByteArray := [⟨#[]⟩, wBool, wInt, wText]
def rulesL : List ByteArray := [⟨#[]⟩, wOne, wMaybe, wMany]
def insR {α : Type} (lt : α → α → Bool) (x : α) : List α → List α
 | [] => [x]
 | y :: l => if lt x y then y :: insR lt x l else x :: y :: l
def sortS {α : Type} (lt : α → α → Bool) (l : List α) : List α := (l.foldl (fun a x => insR lt x a) []).reverse
def itemsF : Nat → Rd → List ItemD → List ItemD × Rd
 | 0, r, acc => (acc, r)
 | k + 1, r, acc => if r.bad = false ∧ r.at_ wShut = false then itemsF k (r.number.2.word.2.take wEnd) (acc ++ [⟨r.number.2.word.1, r.number.1⟩]) else (acc, r)
def ltItem (a b : ItemD) : Bool := decide (a.n < b.n)
def ltField (a b : FieldD) : Bool := decide (a.id < b.id)
def ltInt (a b : Int) : Bool := decide (a < b)
def ltType (a b : TypeD) : Bool := decide (ltS a.name b.name)
def enumRF (r : Rd) : TypeD × Rd :=
 let r2 := r.word.2.take wOpen
 let q := itemsF (r2.l.length + 2) r2 []
 (⟨r.word.1, true, [], [], sortS ltItem q.1⟩, q.2.take wShut)
def goneRF : Nat → Rd → List Int → List Int × Rd
 | 0, r, acc => (acc, r)
 | k + 1, r, acc => if r.bad = false ∧ r.at_ wEnd = false then goneRF k r.number.2 (acc ++ [r.number.1]) else (acc, r)
def fieldRF (r : Rd) : FieldD × Rd :=
 let r1 := r.number.2
 let rule := idxS rulesL r1.next.1
 let r2 := r1.next.2
 let ty := r2.word.1
 let r3 := r2.word.2
 let r4 := r3.word.2
 (⟨r.number.1, r3.word.1, if 0 < idxS kindsL ty then ⟨#[]⟩ else ty, if 0 < idxS kindsL ty then idxS kindsL ty else 0, rule⟩, ⟨r4.l, r4.bad || decide (rule < 1)⟩)
def linesF : Nat → Rd → List FieldD → List Int → List FieldD × List Int × Rd
 | 0, r, fs, gs => (fs, gs, r)
 | k + 1, r, fs, gs => if r.bad = false ∧ r.at_ wShut = false then
   (if r.at_ wGone then linesF k ((goneRF (r.l.length + 2) r.next.2 gs).2.take wEnd) fs (goneRF (r.l.length + 2) r.next.2 gs).1
   else linesF k ((fieldRF r).2.take wEnd) (fs ++ [(fieldRF r).1]) gs)
  else (fs, gs, r)
def messageRF (r : Rd) : TypeD × Rd :=
 let r2 := r.word.2.take wOpen
 let q := linesF (r2.l.length + 2) r2 [] []
 (⟨r.word.1, false, sortS ltField q.1, sortS ltInt q.2.1, []⟩, q.2.2.take wShut)
def typesRF : Nat → Rd → List TypeD → List TypeD × Rd
 | 0, r, acc => (acc, r)
 | k + 1, r, acc => if 0 < r.l.length ∧ r.bad = false then
   (if r.next.1 = wMessage then typesRF k (messageRF r.next.2).2 (acc ++ [(messageRF r.next.2).1])
   else if r.next.1 = wEnum then typesRF k (enumRF r.next.2).2 (acc ++ [(enumRF r.next.2).1])
   else (acc, ⟨r.next.2.l, true⟩))
  else (acc, r)
def fixField (b : BookD) (f : FieldD) : FieldD := if f.kind = 0 then { f with kind := if (findT b f.type).isSome && ((findT b f.type).getD .zero).enum then 4 else 5 } else f
def fixF (b : BookD) : BookD := b.map fun t => { t with fields := t.fields.map (fixField b) }
def parseF (s : List UInt8) : BookD × Int :=
 if 4000 < s.length then ([], 7)
 else match splitF s.length s with
  | none => ([], 1)
  | some l =>
   let q := typesRF (l.length + 2) ⟨l, false⟩ []
   if q.2.bad then ([], 1)
   else if goodF (fixF (sortS ltType q.1)) ≠ 0 then ([], goodF (fixF (sortS ltType q.1)))
   else (fixF (sortS ltType q.1), 0)
def printItem (x : ItemD) : List UInt8 := [32, 32] ++ Lib.itoa x.n ++ [32] ++ bytes x.name ++ [59, 10]
def kindName (f : FieldD) : ByteArray := if f.kind < 4 then (kindsL[f.kind.toNat]?).getD ⟨#[]⟩ else f.type
def ruleName (f : FieldD) : ByteArray := (rulesL[f.rule.toNat]?).getD ⟨#[]⟩
def printField (f : FieldD) : List UInt8 := [32, 32] ++ Lib.itoa f.id ++ [32] ++ bytes (ruleName f) ++ [32] ++ bytes (kindName f) ++ [32] ++ bytes f.name ++ [59, 10]
def printGone (l : List Int) : List UInt8 := if l.length = 0 then [] else [32, 32, 103, 111, 110, 101] ++ l.flatMap (fun n => 32 :: Lib.itoa n) ++ [59, 10]
def printType (t : TypeD) : List UInt8 :=
 if t.enum then bytes wEnum ++ [32] ++ bytes t.name ++ [32, 123, 10] ++ t.items.flatMap printItem ++ [125, 10]
 else bytes wMessage ++ [32] ++ bytes t.name ++ [32, 123, 10] ++ t.fields.flatMap printField ++ printGone t.gone ++ [125, 10]
def printF (b : BookD) : List UInt8 × Int := if goodF b ≠ 0 then ([], goodF b) else (b.flatMap printType, 0)
end Go.Proofs.YtfobdbhmfohfnaaGreatDoor
namespace Go.Proofs.YtfobdbhmfohfnaaGreatDoor
section
variable {α : Type} {lt : α → α → Bool}
theorem insR_pass (x : α) : ∀ (Q S : List α), (∀ y ∈ Q, lt x y = true) → insR lt x (Q ++ S) = Q ++ insR lt x S
 | [], _, _ => rfl
 | y :: Q, S, h => by
  rw [List.cons_append, insR, if_pos (h y (by simp)), insR_pass x Q S (fun z hz => h z (by simp [hz]))]
  rfl
theorem insR_stop (x : α) (S : List α) (h : ∀ y, S.head? = some y → lt x y = false) : insR lt x S = x :: S := by
 cases S with
 | nil => rfl
 | cons y S => rw [insR, if_neg (by simp [h y rfl])]
theorem insR_len (x : α) : ∀ (S : List α), (insR lt x S).length = S.length + 1
 | [] => rfl
 | y :: S => by
  rw [insR]
  split
  ·simp [insR_len x S]
  ·simp
theorem sortS_snoc (l : List α) (x : α) : sortS lt (l ++ [x]) = (insR lt x (sortS lt l).reverse).reverse := by
 unfold sortS
 rw [List.foldl_append]
 simp
theorem sortS_len (l : List α) : (sortS lt l).length = l.length := by
 unfold sortS
 rw [List.length_reverse]
 have : ∀ (m acc : List α), (m.foldl (fun a x => insR lt x a) acc).length = m.length + acc.length := by
  intro m
  induction m with
  | nil => intro acc; simp
  | cons x m ih => intro acc; rw [List.foldl_cons, ih, insR_len]; simp; omega
 simpa using this l []
theorem ins_at {P : List α} {x : α} {j : Nat} (ha : ∀ y ∈ P.drop j, lt x y = true) (hs : ∀ (h : 0 < j) (h2 : j - 1 < P.length), lt x P[j - 1] = false) (hj : j ≤ P.length) :
  (insR lt x P.reverse).reverse = P.take j ++ x :: P.drop j := by
 have e : P.reverse = (P.drop j).reverse ++ (P.take j).reverse := by rw [← List.reverse_append, List.take_append_drop]
 rw [e, insR_pass x _ _ (fun y hy => ha y (List.mem_reverse.1 hy)), insR_stop]
 ·simp
 ·intro y hy
  rw [List.head?_reverse, List.getLast?_eq_getElem?, List.length_take, Nat.min_eq_left hj] at hy
  by_cases h0 : 0 < j
  ·have h2 : j - 1 < P.length := by omega
   rw [List.getElem?_take, if_pos (by omega), List.getElem?_eq_getElem h2] at hy
   injection hy with hy
   rw [← hy]; exact hs h0 h2
  ·obtain rfl : j = 0 := by omega
   simp at hy
def Mid (lt : α → α → Bool) (xs : List α) (i j : Nat) (ys : List α) : Prop :=
 ∃ (x : α) (_ : xs[i]? = some x), j ≤ i ∧ ys = (sortS lt (xs.take i)).take j ++ x :: ((sortS lt (xs.take i)).drop j ++ xs.drop (i + 1)) ∧ ∀ y ∈ (sortS lt (xs.take i)).drop j, lt x y = true
theorem sorted_len {xs : List α} {i : Nat} (hi : i ≤ xs.length) : (sortS lt (xs.take i)).length = i := by rw [sortS_len, List.length_take]; omega
theorem mid_start {xs ys : List α} {i : Nat} (hi : i < xs.length) (h : ys = sortS lt (xs.take i) ++ xs.drop i) : Mid lt xs i i ys := by
 have hl : (sortS lt (xs.take i)).length = i := sorted_len (by omega)
 refine ⟨xs[i], List.getElem?_eq_getElem hi, Nat.le_refl _, ?_, ?_⟩
 ·rw [h]
  generalize sortS lt (xs.take i) = P at hl ⊢
  rw [List.drop_eq_getElem_cons hi, List.take_of_length_le (by omega), List.drop_eq_nil_of_le (as := P) (by omega)]; rfl
 ·generalize sortS lt (xs.take i) = P at hl ⊢
  rw [List.drop_eq_nil_of_le (by omega)]; intro y hy; cases hy
theorem mid_step {xs ys : List α} {i q : Nat} (hi : i < xs.length) (h : Mid lt xs i (q + 1) ys) (h1 : q + 1 < ys.length) (hlt : lt ys[q + 1] ys[q] = true) : Mid lt xs i q ((ys.set (q + 1) ys[q]).set q ys[q + 1]) := by
 obtain ⟨x, hx, hq, he, ha⟩ := h
 have hl : (sortS lt (xs.take i)).length = i := sorted_len (by omega)
 obtain ⟨P, hP⟩ : ∃ P, P = sortS lt (xs.take i) := ⟨_, rfl⟩
 rw [← hP] at he ha hl
 have hqP : q < P.length := by omega
 have hd : P.drop q = P[q] :: P.drop (q + 1) := List.drop_eq_getElem_cons hqP
 have ht : P.take (q + 1) = P.take q ++ [P[q]] := List.take_succ_eq_append_getElem hqP
 have hlt' : (P.take q).length = q := by rw [List.length_take]; omega
 have he2 : ys = P.take q ++ P[q] :: x :: (P.drop (q + 1) ++ xs.drop (i + 1)) := by rw [he, ht, List.append_assoc]; rfl
 have y1 : ys[q + 1] = x := by
  have : ys[q + 1]? = some x := by
   rw [he2, List.getElem?_append_right (by omega), hlt', show q + 1 - q = 1 by omega]; rfl
  rw [List.getElem?_eq_getElem h1] at this; injection this
 have y0 : ys[q] = P[q] := by
  have : ys[q]? = some P[q] := by
   rw [he2, List.getElem?_append_right (by omega), hlt', Nat.sub_self]; rfl
  rw [List.getElem?_eq_getElem (by omega)] at this; injection this
 rw [y1, y0] at hlt ⊢
 refine ⟨x, hx, by omega, ?_, ?_⟩
 ·rw [← hP, hd, he2, List.set_append, if_neg (by omega), hlt', show q + 1 - q = 1 by omega, List.set_append, if_neg (by omega), hlt', Nat.sub_self]
  rfl
 ·rw [← hP, hd]
  intro y hy
  rcases List.mem_cons.1 hy with rfl | hy
  ·exact hlt
  ·exact ha y hy
theorem mid_end {xs ys : List α} {i j : Nat} (hi : i < xs.length) (h : Mid lt xs i j ys) (hs : ∀ (_ : 0 < j) (h1 : j < ys.length), lt ys[j] ys[j - 1] = false) : ys = sortS lt (xs.take (i + 1)) ++ xs.drop (i + 1) := by
 obtain ⟨x, hx, hq, he, ha⟩ := h
 have hl : (sortS lt (xs.take i)).length = i := sorted_len (by omega)
 obtain ⟨P, hP⟩ : ∃ P, P = sortS lt (xs.take i) := ⟨_, rfl⟩
 rw [← hP] at he ha hl
 have hlt' : (P.take j).length = j := by rw [List.length_take]; omega
 have hxi : xs.take (i + 1) = xs.take i ++ [x] := by
  rw [List.take_succ_eq_append_getElem hi]
  rw [List.getElem?_eq_getElem hi] at hx
  injection hx with hx
  rw [hx]
 rw [hxi, sortS_snoc, ← hP, ins_at ha (fun h0 h2 => ?_) (by omega), he]
 ·simp
 ·have hyl : j < ys.length := by rw [he]; simp; omega
  have := hs h0 hyl
  have y1 : ys[j] = x := by
   have : ys[j]? = some x := by rw [he, List.getElem?_append_right (by omega), hlt', Nat.sub_self]; rfl
   rw [List.getElem?_eq_getElem hyl] at this; injection this
  have y0 : ys[j - 1] = P[j - 1] := by
   have : ys[j - 1]? = some P[j - 1] := by
    rw [he, List.getElem?_append_left (by omega), List.getElem?_take, if_pos (by omega), List.getElem?_eq_getElem h2]
   rw [List.getElem?_eq_getElem (by omega)] at this; injection this
  rw [y1, y0] at this; exact this
theorem swap_mem {ys : List α} {i j : Nat} (hi : i < ys.length) (hj : j < ys.length) {Q : α → Prop} (h : ∀ y ∈ ys, Q y) : ∀ y ∈ (ys.set i ys[j]).set j ys[i], Q y := by
 intro y hy
 rcases List.mem_or_eq_of_mem_set hy with hy | rfl
 ·rcases List.mem_or_eq_of_mem_set hy with hy | rfl
  ·exact h y hy
  ·exact h _ (List.getElem_mem hj)
 ·exact h _ (List.getElem_mem hi)
end
end Go.Proofs.YtfobdbhmfohfnaaGreatDoor
namespace Go.Proofs.YtfobdbhmfohfnaaGreatDoor
inductive All2 {α β : Type} (P : α → β → Prop) : List α → List β → Prop
 | nil : All2 P [] []
 | cons {x : α} {y : β} {l : List α} {m : List β} : P x y → All2 P l m → All2 P (x :: l) (y :: m)
section
variable {α β : Type} {P : α → β → Prop}
theorem All2.len {l : List α} {m : List β} (h : All2 P l m) : l.length = m.length := by induction h <;> simp_all
theorem All2.get {l : List α} {m : List β} (h : All2 P l m) : ∀ {i : Nat} (h1 : i < l.length) (h2 : i < m.length), P l[i] m[i] := by
 induction h with
 | nil => intro i h1; simp at h1
 | cons hx _ ih =>
  intro i h1 h2
  cases i with
  | zero => exact hx
  | succ i => exact ih (by simpa using h1) (by simpa using h2)
theorem All2.of_get : ∀ {l : List α} {m : List β}, l.length = m.length → (∀ i (h1 : i < l.length) (h2 : i < m.length), P l[i] m[i]) → All2 P l m
 | [], [], _, _ => .nil
 | [], _ :: _, h, _ => by simp at h
 | _ :: _, [], h, _ => by simp at h
 | x :: l, y :: m, h, hg => .cons (hg 0 (by simp) (by simp)) (All2.of_get (by simpa using h) fun i h1 h2 => hg (i + 1) (by simpa using h1) (by simpa using h2))
theorem All2.append {l l' : List α} {m m' : List β} (h : All2 P l m) (h' : All2 P l' m') : All2 P (l ++ l') (m ++ m') := by
 induction h with
 | nil => exact h'
 | cons hx _ ih => exact .cons hx ih
theorem All2.mono {Q : α → β → Prop} {l : List α} {m : List β} (h : All2 P l m) (hq : ∀ x y, x ∈ l → P x y → Q x y) : All2 Q l m := by
 induction h with
 | nil => exact .nil
 | cons hx _ ih => exact .cons (hq _ _ (List.mem_cons_self ..) hx) (ih fun x y hm => hq x y (List.mem_cons_of_mem _ hm))
theorem All2.left {l : List α} {m : List β} (h : All2 P l m) : ∀ x ∈ l, ∃ y ∈ m, P x y := by
 induction h with
 | nil => intro x hx; cases hx
 | cons hx _ ih =>
  intro z hz
  rcases List.mem_cons.1 hz with rfl | hz
  ·exact ⟨_, List.mem_cons_self .., hx⟩
  ·obtain ⟨y, hy, h⟩ := ih z hz; exact ⟨y, List.mem_cons_of_mem _ hy, h⟩
theorem All2.of_left {l : List α} (h : ∀ x ∈ l, ∃ y, P x y) : ∃ m, All2 P l m := by
 induction l with
 | nil => exact ⟨[], .nil⟩
 | cons x l ih =>
  obtain ⟨y, hy⟩ := h x (List.mem_cons_self ..)
  obtain ⟨m, hm⟩ := ih fun x hx => h x (List.mem_cons_of_mem _ hx)
  exact ⟨y :: m, .cons hy hm⟩
theorem All2.set {l : List α} {m : List β} (h : All2 P l m) {x : α} {y : β} (hx : P x y) : ∀ i, All2 P (l.set i x) (m.set i y) := by
 induction h with
 | nil => intro i; exact .nil
 | cons h1 h2 ih =>
  intro i
  cases i with
  | zero => exact .cons hx h2
  | succ i => exact .cons h1 (ih i)
theorem All2.rev {l : List α} {m : List β} (h : All2 P l m) : All2 P l.reverse m.reverse := by
 induction h with
 | nil => exact .nil
 | cons hx _ ih => simpa using ih.append (.cons hx .nil)
variable {lt : α → α → Bool} {lt' : β → β → Bool}
theorem insR_rel (hlt : ∀ a b a' b', P a a' → P b b' → lt a b = lt' a' b') {x : α} {y : β} (hx : P x y) {l : List α} {m : List β} (h : All2 P l m) : All2 P (insR lt x l) (insR lt' y m) := by
 induction h with
 | nil => exact .cons hx .nil
 | cons h1 h2 ih =>
  rw [insR, insR, hlt _ _ _ _ hx h1]
  split
  ·exact .cons h1 ih
  ·exact .cons hx (.cons h1 h2)
theorem sortS_rel (hlt : ∀ a b a' b', P a a' → P b b' → lt a b = lt' a' b') {l : List α} {m : List β} (h : All2 P l m) : All2 P (sortS lt l) (sortS lt' m) := by
 unfold sortS
 refine All2.rev ?_
 have key : ∀ {l : List α} {m : List β}, All2 P l m → ∀ {a : List α} {b : List β}, All2 P a b → All2 P (l.foldl (fun a x => insR lt x a) a) (m.foldl (fun a x => insR lt' x a) b) := by
  intro l m h
  induction h with
  | nil => intro a b hab; exact hab
  | cons hx _ ih => intro a b hab; exact ih (insR_rel hlt hx hab)
 exact key h .nil
end
def enumOf (b : BookD) (n : ByteArray) : Bool := (findT b n).isSome && ((findT b n).getD .zero).enum
def heads (b : BookD) : List (ByteArray × Bool) := b.map fun t => (t.name, t.enum)
theorem enumOf_heads : ∀ (b b' : BookD), heads b = heads b' → ∀ n, enumOf b n = enumOf b' n
 | [], [], _, _ => rfl
 | [], _ :: _, h, _ => by simp [heads] at h
 | _ :: _, [], h, _ => by simp [heads] at h
 | t :: b, t' :: b', h, n => by
  simp only [heads, List.map_cons, List.cons.injEq, Prod.mk.injEq] at h
  obtain ⟨⟨h1, h2⟩, h3⟩ := h
  have ih := enumOf_heads b b' h3 n
  unfold enumOf findT at ih ⊢
  rw [List.find?_cons, List.find?_cons, h1]
  by_cases e : t'.name = n
  ·simp [e, h2]
  ·simpa [e] using ih
def mendF (e : ByteArray → Bool) (f : FieldD) : FieldD := if f.kind = 0 then { f with kind := if e f.type then 4 else 5 } else f
theorem fixField_mend (b : BookD) (f : FieldD) : fixField b f = mendF (enumOf b) f := rfl
theorem mendF_twice (e : ByteArray → Bool) (f : FieldD) : mendF e (mendF e f) = mendF e f := by
 unfold mendF
 by_cases h : f.kind = 0
 ·rw [if_pos h]
  have : ¬ ((if e f.type = true then (4 : Int) else 5) = 0) := by split <;> decide
  simp only [if_neg this]
 ·rw [if_neg h, if_neg h]
def mendT (e : ByteArray → Bool) (t : TypeD) : TypeD := { t with fields := t.fields.map (mendF e) }
theorem fixF_mend (b : BookD) : fixF b = b.map (mendT (enumOf b)) := rfl
theorem heads_mend (e : ByteArray → Bool) (b : BookD) : heads (b.map (mendT e)) = heads b := by simp [heads, mendT]
def ShortT (t : TypeD) : Prop := t.name.size ≤ 4000 ∧ t.fields.length ≤ 5000 ∧ (∀ f ∈ t.fields, f.name.size ≤ 4000 ∧ f.type.size ≤ 4000) ∧ ∀ x ∈ t.items, x.name.size ≤ 4000
def LikeT (t t' : TypeD) : Prop := t.name = t'.name ∧ t.enum = t'.enum ∧ t.fields.length = t'.fields.length ∧ (t'.fields.length < 20 → t.fields = t'.fields) ∧ t.gone = t'.gone ∧ t.items.length = t'.items.length ∧ (t'.items.length < 20 → t.items = t'.items) ∧ ShortT t
theorem types_long {b : BookD} {t : TypeD} (ht : t ∈ b) (h : 5 < t.fields.length ∨ 6 < t.items.length) : ¬ TypesP b := by
 intro hp
 obtain ⟨i, hi, rfl⟩ := List.getElem_of_mem ht
 have := (hp i hi).2.2
 split at this
 ·have := of_decide_eq_true this
  obtain ⟨-, -, h1, h2, -⟩ := this
  omega
 ·have := of_decide_eq_true this
  obtain ⟨h1, h2, -⟩ := this
  omega
theorem good_seven {b : BookD} (h : 4 < b.length) : goodF b = 7 := if_pos h
theorem good_one {b : BookD} (h : ¬ 4 < b.length) (h2 : ¬ TypesP b) : goodF b = 1 := by rw [goodF, if_neg h, if_pos h2]
theorem fix_len (b : BookD) : (fixF b).length = b.length := List.length_map ..
theorem fix_long {b : BookD} {t : TypeD} (ht : t ∈ b) (h : 20 ≤ t.fields.length ∨ 20 ≤ t.items.length) : ¬ TypesP (fixF b) := by
 rw [fixF_mend]
 exact types_long (List.mem_map_of_mem ht) (by show 5 < (t.fields.map _).length ∨ 6 < t.items.length; rw [List.length_map]; omega)
theorem good_like {b u : BookD} (h : All2 LikeT b u) : goodF (fixF b) = goodF (fixF u) ∧ (goodF (fixF u) = 0 → b = u) := by
 have hl := h.len
 by_cases h4 : 4 < u.length
 ·rw [good_seven (b := fixF b) (by rw [fix_len]; omega), good_seven (b := fixF u) (by rw [fix_len]; omega)]
  exact ⟨rfl, fun h => by cases h⟩
 by_cases hs : ∀ t ∈ u, t.fields.length < 20 ∧ t.items.length < 20
 ·have e : b = u := by
   clear hl h4
   induction h with
   | nil => rfl
   | cons hx _ ih =>
    rw [ih fun t ht => hs t (List.mem_cons_of_mem _ ht)]
    obtain ⟨s1, s2⟩ := hs _ (List.mem_cons_self ..)
    obtain ⟨h1, h2, -, h3, h4, -, h5, -⟩ := hx
    congr 1
    rename_i x y _ _ _
    obtain ⟨_, _, _, _, _⟩ := x
    obtain ⟨_, _, _, _, _⟩ := y
    simp only at h1 h2 h3 h4 h5 s1 s2
    rw [h1, h2, h3 s1, h4, h5 s2]
  subst e
  exact ⟨rfl, fun _ => rfl⟩
 ·have : ∃ t ∈ u, 20 ≤ t.fields.length ∨ 20 ≤ t.items.length := by
   refine Classical.byContradiction fun hn => hs fun t ht => ⟨?_, ?_⟩ <;> refine Classical.byContradiction fun hc => hn ⟨t, ht, ?_⟩ <;> omega
  obtain ⟨t, ht, hlen⟩ := this
  obtain ⟨i, hi, rfl⟩ := List.getElem_of_mem ht
  have hx := h.get (i := i) (by omega) hi
  obtain ⟨-, -, h1, -, -, h2, -⟩ := hx
  rw [good_one (b := fixF u) (by rw [fix_len]; exact h4) (fix_long ht hlen), good_one (b := fixF b) (by rw [fix_len]; omega) (fix_long (List.getElem_mem (by omega : i < b.length)) (by omega))]
  exact ⟨rfl, fun h => by cases h⟩
theorem good_sorted2 {b u : BookD} (hl : b.length = u.length) (h : u.length < 20 → All2 LikeT b (sortS ltType u)) : goodF (fixF b) = goodF (fixF (sortS ltType u)) ∧ (goodF (fixF (sortS ltType u)) = 0 → b = sortS ltType u) := by
 by_cases h20 : u.length < 20
 ·exact good_like (h h20)
 ·rw [good_seven (b := fixF b) (by rw [fix_len]; omega), good_seven (b := fixF (sortS ltType u)) (by rw [fix_len, sortS_len]; omega)]
  exact ⟨rfl, fun h => by cases h⟩
theorem like_lt (a b a' b' : TypeD) (h : LikeT a a') (h' : LikeT b b') : ltType a b = ltType a' b' := by unfold ltType; rw [h.1, h'.1]
end Go.Proofs.YtfobdbhmfohfnaaGreatDoor
namespace Go.Proofs.YtfobdbhmfohfnaaGreatDoor
open Go.RowKit
def setL : List Value → Nat → List Value → List Value
 | F, _, [] => F
 | F, o, c :: cs => setL (F.set o c) (o + 1) cs
theorem setL_mid : ∀ (cs c P Q : List Value), c.length = cs.length → setL (P ++ (c ++ Q)) P.length cs = P ++ (cs ++ Q)
 | [], c, P, Q, h => by
  obtain rfl : c = [] := List.eq_nil_of_length_eq_zero (by simpa using h)
  rfl
 | d :: cs, [], P, Q, h => by simp at h
 | d :: cs, x :: c, P, Q, h => by
  have h' : c.length = cs.length := by simpa using h
  have e : (P ++ (x :: c ++ Q)).set P.length d = (P ++ [d]) ++ (c ++ Q) := by
   rw [List.set_append, if_neg (by omega)]
   simp
  have := setL_mid cs c (P ++ [d]) Q h'
  simp only [List.length_append, List.length_singleton] at this
  rw [setL, e, this]
  simp
theorem setL_flatten {k : Nat} {css : List (List Value)} (hall : ∀ x ∈ css, x.length = k) {i : Nat} (hi : i < css.length) {cs : List Value} (hcs : cs.length = k) : setL css.flatten (i * k) cs = (css.set i cs).flatten := by
 have e1 : css = css.take i ++ (css[i] :: css.drop (i + 1)) := by
  rw [← List.drop_eq_getElem_cons hi, List.take_append_drop]
 have e2 : css.set i cs = css.take i ++ (cs :: css.drop (i + 1)) := by
  rw [List.set_eq_take_append_cons_drop, if_pos hi]
 have hl : (css.take i).flatten.length = i * k := by
  rw [flatten_len k _ (fun x hx => hall x (List.mem_of_mem_take hx)), List.length_take, Nat.min_eq_left (by omega)]
 rw [e2]
 conv => lhs; rw [e1]
 rw [List.flatten_append, List.flatten_cons, List.flatten_append, List.flatten_cons, ← hl]
 exact setL_mid cs _ _ _ (by rw [hall _ (List.getElem_mem hi), hcs])
section
variable {α : Type} {base e sz by_ : Nat} {R : Rel α} {T : Nat → Prop} {w w' : World} {v : Value} {xs : List α}
theorem owns_setCells {g n cap : Nat} : ∀ (cs : List Value) (o : Nat) (w : World) (F : List Value), w.ownsRow base e sz (.slice (some ⟨g, 0, none⟩) n cap) n F →
  (setCells w g o cs).ownsRow base e sz (.slice (some ⟨g, 0, none⟩) n cap) n (setL F o cs) ∧ w.grownBy (setCells w g o cs) (some g)
 | [], _, w, _, h => ⟨h, grown_below (Below.refl _ _) _⟩
 | c :: cs, o, w, F, h => by
  obtain ⟨a1, g1⟩ := h.stored o c
  obtain ⟨a2, g2⟩ := owns_setCells cs (o + 1) _ _ a1
  exact ⟨a2, grown_via g1 g2 (.inl rfl)⟩
theorem Own.store {g cap : Nat} (hR : Fair R) (h : Own base e sz R T w (.slice (some ⟨g, 0, none⟩) xs.length cap) xs) {i : Nat} (hi : i < xs.length) {cs : List Value} {x : α} (hcs : cs.length = sz) (hx : R T w cs x) :
  Own base e sz R T (setCells w g (i * sz) cs) (.slice (some ⟨g, 0, none⟩) xs.length cap) (xs.set i x) ∧ w.grownBy (setCells w g (i * sz) cs) (some g) := by
 obtain ⟨css, h1, h2, h3, h4⟩ := h
 have hT : ¬ T g := h3 g rfl
 obtain ⟨a, hg⟩ := owns_setCells cs (i * sz) w _ h1
 have hk : Keep T w (setCells w g (i * sz) cs) := Keep.of_grown hg (fun k e => by injection e with e; rw [← e]; exact hT)
 have hall : ∀ c ∈ css, c.length = sz := by
  intro c hc
  obtain ⟨j, hj, rfl⟩ := List.getElem_of_mem hc
  exact (h4 j (xs[j]'(by omega)) _ (List.getElem?_eq_getElem (by omega)) (List.getElem?_eq_getElem hj)).1
 refine ⟨⟨css.set i cs, ?_, by simp [h2], h3, ?_⟩, hg⟩
 ·rw [List.length_set, ← setL_flatten hall (by omega) hcs]; exact a
 ·intro k y c hy hc
  by_cases e : k = i
  ·subst e
   rw [List.getElem?_set_self (by omega)] at hy hc
   simp only [Option.some.injEq] at hy hc
   subst hy hc
   exact ⟨hcs, hR.keep hx hk⟩
  ·rw [List.getElem?_set_ne (fun h => e h.symm)] at hy hc
   obtain ⟨b1, b2⟩ := h4 k y c hy hc
   exact ⟨b1, hR.keep b2 hk⟩
theorem Own.cells {g n cap : Nat} (h : Own base e sz R T w (.slice (some ⟨g, 0, none⟩) n cap) xs) {i : Nat} (hi : i < xs.length) : ∃ cs, cs.length = sz ∧ R T w cs xs[i] ∧ Lies w g (i * sz) cs := by
 obtain ⟨css, h1, h2, h3, h4⟩ := h
 have hn : n = xs.length := by
  rcases h1.2 with ⟨hv, _⟩ | ⟨_, _, _, hv, _⟩
  ·injection hv with hv; cases hv
  ·injection hv
 subst hn
 have hc : css[i]? = some (css[i]'(by omega)) := List.getElem?_eq_getElem (by omega)
 obtain ⟨b1, b2⟩ := h4 i _ _ (List.getElem?_eq_getElem hi) hc
 have hall : ∀ c ∈ css, c.length = sz := by
  intro c hc
  obtain ⟨j, hj, rfl⟩ := List.getElem_of_mem hc
  exact (h4 j (xs[j]'(by omega)) _ (List.getElem?_eq_getElem (by omega)) (List.getElem?_eq_getElem hj)).1
 refine ⟨_, b1, b2, fun j hj => ?_⟩
 have hfl := flatten_get css sz i j _ hall hc (by omega)
 have hlen : css.flatten.length = css.length * sz := flatten_len sz _ hall
 have hlt : i * sz + j < xs.length * sz := by
  have : (i + 1) * sz ≤ xs.length * sz := Nat.mul_le_mul_right _ hi
  rw [Nat.add_mul, Nat.one_mul] at this
  omega
 rw [h1.cellAt _ hlt, hfl]
theorem Own.frozen {g n cap : Nat} (h : Own base e sz R T w (.slice (some ⟨g, 0, none⟩) n cap) xs) (i : Nat) : w.frozen? ⟨g, i, none⟩ = false := by
 obtain ⟨css, h1, _⟩ := h
 have hn : n = xs.length := by
  rcases h1.2 with ⟨hv, _⟩ | ⟨_, _, _, hv, _⟩
  ·injection hv with hv; cases hv
  ·injection hv
 subst hn
 exact h1.frozenAt i
theorem Own.len {g : Option Addr} {n cap : Nat} (h : Own base e sz R T w (.slice g n cap) xs) : n = xs.length := by
 obtain ⟨css, h1, _⟩ := h
 rcases h1.2 with ⟨hv, h0⟩ | ⟨_, _, _, hv, _⟩
 ·injection hv with _ hv; omega
 ·injection hv
theorem Own.there_ {A : Option Addr} {n cap : Nat} (h : Own base e sz R T w (.slice A n cap) xs) (h0 : 0 < xs.length) : ∃ g, A = some ⟨g, 0, none⟩ ∧ base ≤ g ∧ g < w.heap.size := by
 obtain ⟨css, h1, _⟩ := h
 rcases h1.2 with ⟨hv, h00⟩ | ⟨g, c, cur, hv, hb, hh⟩
 ·omega
 ·injection hv with hv
  subst hv
  exact ⟨g, rfl, hb, (h1.lt g rfl).2⟩
end
end Go.Proofs.YtfobdbhmfohfnaaGreatDoor
