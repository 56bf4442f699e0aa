/- The walk of the document's own CopyBook. -/
import Derived.Test.YtihdnjnhhhafkaaGreatDoorRefA
import Derived.Test.YtihdnjnhhhafkaaGreatDoorBase
import Derived.Test.YtihdnjnhhhafkaaGreatDoorLates
import Derived.Deep.DrawnRows
set_option linter.all false
set_option maxRecDepth 100000
set_option maxHeartbeats 8000000
namespace Go.Proofs.YtihdnjnhhhafkaaGreatDoor
open Go.RowKit
theorem slc_ints : SlInfo Tryz.prog 35 3 1 8 := SlInfo.mk (z := .int .i64 0) Tryz.underlying35 (by decide) (by decide) (by kernel_rfl) rfl
theorem slc_fields : SlInfo Tryz.prog 34 43 5 56 := SlInfo.mk (z := .agg #[.int .i64 0, .string .empty, .string .empty, .int .i64 0, .int .i64 0]) Tryz.underlying34 (by decide) (by decide) (by kernel_rfl) rfl
theorem slc_items : SlInfo Tryz.prog 36 62 2 24 := SlInfo.mk (z := .agg #[.string .empty, .int .i64 0]) Tryz.underlying36 (by decide) (by decide) (by kernel_rfl) rfl
theorem slc_types : SlInfo Tryz.prog 22 38 5 96 := SlInfo.mk (z := .agg #[.string .empty, .bool false, .slice none 0 0, .slice none 0 0, .slice none 0 0]) Tryz.underlying22 (by decide) (by decide) (by kernel_rfl) rfl
theorem RField.ones : OneCells RField := by
 rintro S w cs x h
 have h' : cs = fieldCells x := h
 subst h'; exact Ones.of_all rfl
theorem RItem.ones : OneCells RItem := by
 rintro S w cs x h
 have h' : cs = itemCells x := h
 subst h'; exact Ones.of_all rfl
theorem Src.flat {α : Type} {enc : α → List Value} {sz : Nat} {T T' : Nat → Prop} {w : World} {A : Option Addr} {ys : List α} (h : Src sz (RFlat enc) T w A ys) : Src sz (RFlat enc) T' w A ys := h
def OT (base : Nat) (w : World) (vt : Value) (acc : List TypeD) : Prop :=
 ∃ T : Nat → Prop, (∀ g, T g → base ≤ g ∧ g < w.heap.size) ∧ Own base 38 5 RType T w vt acc
section
variable {base : Nat} {w w' : World} {vt v' : Value} {acc : List TypeD}
theorem OT.nil (base : Nat) (w : World) : OT base w (.slice none 0 0) [] := ⟨fun _ => False, fun _ h => h.elim, Own.nil_ _ _ _ _ _ _⟩
theorem OT.below (h : OT base w vt acc) (hb : Below w.heap.size w w') : OT base w' vt acc := by
 obtain ⟨T, h1, h2⟩ := h
 exact ⟨T, fun g hg => ⟨(h1 g hg).1, Nat.lt_of_lt_of_le (h1 g hg).2 hb.size⟩, h2.below RType.fair hb⟩
theorem OT.alloc (h : OT base w vt acc) (o : Obj) : OT base (w.alloc o) vt acc := h.below ((Below.refl _ _).alloc (Nat.le_refl _) o)
theorem OT.setCell (h : OT base w vt acc) {p : Addr} (u : Value) (hp : p.block < base) : OT base (w.setCell p u) vt acc := by
 obtain ⟨T, h1, h2⟩ := h
 exact ⟨T, fun g hg => ⟨(h1 g hg).1, by simpa [World.setCell] using (h1 g hg).2⟩, h2.setCell RType.fair u (fun e => by have := (h2.lt e).1; omega) (fun e => by have := (h1 _ e).1; omega)⟩
theorem OT.lt (h : OT base w vt acc) {k : Nat} (hk : vt.ownBlock = some k) : base ≤ k ∧ k < w.heap.size := by obtain ⟨_, _, h⟩ := h; exact h.lt hk
theorem OT.form (h : OT base w vt acc) : ∃ A cap, vt = .slice A acc.length cap ∧ acc.length ≤ cap := by obtain ⟨_, _, h⟩ := h; exact h.form
theorem OT.take (h : OT base w vt acc) {p q : Nat} {es : List Value} {t : TypeD} (hr : RType (fun g => p ≤ g ∧ g < q) w es t) (hp : base ≤ p) (hq : q ≤ w.heap.size) (ht : ∀ k, vt.ownBlock = some k → k < p ∨ q ≤ k) :
  ∃ T : Nat → Prop, (∀ g, T g → base ≤ g ∧ g < w.heap.size) ∧ Own base 38 5 RType T w vt acc ∧ RType T w es t := by
 obtain ⟨T, h1, h3⟩ := h
 have h30 := h3
 obtain ⟨_, _, _, h3n, _⟩ := h30
 refine ⟨fun g => T g ∨ (p ≤ g ∧ g < q), ?_, h3.mono RType.fair (fun g hg _ => .inl hg) ?_, RType.fair.mono hr (fun g hg _ => .inr hg)⟩
 ·rintro g (hg | hg)
  ·exact h1 g hg
  ·exact ⟨by omega, by omega⟩
 ·rintro k hk (hg | hg)
  ·exact h3n k hk hg
  ·have := ht k hk; omega
theorem OT.made {T : Nat → Prop} (h1 : ∀ g, T g → base ≤ g ∧ g < w.heap.size) {acc' : List TypeD} {row : Option Nat} (hg : w.grownBy w' row) (ho : Own base 38 5 RType T w' v' acc') : OT base w' v' acc' :=
 ⟨T, fun g hg' => ⟨(h1 g hg').1, Nat.lt_of_lt_of_le (h1 g hg').2 hg.size⟩, ho⟩
theorem OT.read (h : OT base w vt acc) {S : Nat → Prop} (hS : ∀ g, base ≤ g → S g) (hb : acc.length * 96 ≤ 140737488351232) : RSl 5 96 RType S w [vt] acc := by
 obtain ⟨T, h1, h2⟩ := h
 exact h2.read RType.fair (fun g hg _ => hS g (h1 g hg).1) (fun k hk => hS k (h2.lt hk).1) hb
end
theorem copy_results {W : World} {a : Act} {g : Nat} {v : Value} (hb : Box W g 24 [v]) (h2 : a.tmps.getD 2 undef = .pointer (some ⟨g, 0, none⟩)) :
  (results Tryz.f4 a.tmps).run Tryz.prog W = .ok (.agg #[v]) W := by
 have c0 : W.cell? ⟨g, 0, none⟩ = some v := hb.cell 0
 simp only [Array.getD_eq_getD_getElem?] at h2
 simp [results, Tryz.results4, go_sem, h2, c0]
def CopyPost (w : World) (b : BookD) (e : Ending) (w' : World) : Prop := ∃ A cap, e = .returned (.agg #[.slice A b.length cap]) ∧ RSl 5 96 RType (New w) w' [.slice A b.length cap] b ∧ Below w.heap.size w w'
theorem copyBook_any (S : Nat → Prop) (vb : Value) (b : BookD) (w : World) (hb0 : RSl 5 96 RType S w [vb] b) :
  Calls Tryz.prog 4 #[.agg #[vb]] w (CopyPost w b) := by
 obtain ⟨A, cap, rfl, hlc, hlb⟩ := hb0.form
 have HB := Lib.hid hb0
 obtain ⟨x1, x2, x3, x4⟩ := boxes3 w [.slice A b.length cap] [.slice none 0 0] [.slice none 0 0] 24 24 24
 clear hb0
 go_enter Tryz.func4, Tryz.ntmps4
 go_wp2_with fail
 go_loopw [9] (fun i wr => ∃ (k : Nat) (vt : Value), i = .int .i64 k ∧ k ≤ b.length ∧ Box wr w.heap.size 24 [.slice A b.length cap] ∧ Box wr (w.heap.size + 1) 24 [.slice none 0 0] ∧ Box wr (w.heap.size + 1 + 1) 24 [vt] ∧ OT (w.heap.size + 1 + 1 + 1) wr vt (b.take k) ∧ Below w.heap.size w wr) (fun i _ => b.length - (intOf i).toNat)
 case atStart => exact ⟨0, _, rfl, by omega, x1, x2, x3, OT.nil _ _, x4⟩
 case round =>
  clear x1 x2 x3 x4
  obtain ⟨k, vt, rfl, hk, hb1, hb2, hb3, hot, hb⟩ := hrel
  by_cases hlt : k < b.length
  ·obtain ⟨g, o, es, rfl, hS, hg, hes, hr, hc0⟩ := HB.out.at_ hlt
   have hc := hc0.keep (Keep.of_below hb) hS
   have hgw : g < wr.heap.size := Nat.lt_of_lt_of_le hg hb.size
   have htk : b.take (k + 1) = b.take k ++ [b[k]] := List.take_succ_eq_append_getElem hlt
   obtain ⟨t, hte⟩ : ∃ t, t = b[k] := ⟨_, rfl⟩
   rw [← hte] at hr htk
   obtain ⟨A1, k1, A2, k2, A3, k3, rfl, hf, hgo, hi⟩ := hr.parts
   obtain ⟨_, _, hff, hflc, hflb⟩ := hf.form
   obtain ⟨_, _, hgg, hglc, hglb⟩ := hgo.form
   obtain ⟨_, _, hii, hilc, hilb⟩ := hi.form
   have q0 : wr.cell? ⟨g, o + k * 5, none⟩ = some (.string t.name) := hc.at_ 0 rfl
   have q1 : wr.cell? ⟨g, o + k * 5 + 1, none⟩ = some (.bool t.enum) := hc.at_ 1 rfl
   have q2 : wr.cell? ⟨g, o + k * 5 + 2, none⟩ = some (.slice A1 t.fields.length k1) := hc.at_ 2 rfl
   have q3 : wr.cell? ⟨g, o + k * 5 + 3, none⟩ = some (.slice A2 t.gone.length k2) := hc.at_ 3 rfl
   have q4 : wr.cell? ⟨g, o + k * 5 + 4, none⟩ = some (.slice A3 t.items.length k3) := hc.at_ 4 rfl
   have HF := Lib.hid hf
   have HG := Lib.hid hgo
   have HI := Lib.hid hi
   clear hc hc0 hte hr hf hgo hi hff hgg hii
   have hbl : (b.take k).length = k := by rw [List.length_take]; omega
   obtain ⟨acc, hacc⟩ : ∃ a, a = b.take k := ⟨_, rfl⟩
   rw [← hacc] at hot htk hbl
   have HTK := Lib.hid htk
   have Hbl := Lib.hid hbl
   clear hacc htk hbl
   have hsz3 : w.heap.size + 1 + 1 + 1 ≤ wr.heap.size := by have := hb3.lt; omega
   have hwa := hb.alloc hb.size (.cells #[.string t.name, .bool t.enum, .slice A1 t.fields.length k1, .slice A2 t.gone.length k2, .slice A3 t.items.length k3] 38)
   have b1 := hb1.alloc (.cells #[.string t.name, .bool t.enum, .slice A1 t.fields.length k1, .slice A2 t.gone.length k2, .slice A3 t.items.length k3] 38)
   have b2 := hb2.alloc (.cells #[.string t.name, .bool t.enum, .slice A1 t.fields.length k1, .slice A2 t.gone.length k2, .slice A3 t.items.length k3] 38)
   have b3 := hb3.alloc (.cells #[.string t.name, .bool t.enum, .slice A1 t.fields.length k1, .slice A2 t.gone.length k2, .slice A3 t.items.length k3] 38)
   have hota := hot.alloc (.cells #[.string t.name, .bool t.enum, .slice A1 t.fields.length k1, .slice A2 t.gone.length k2, .slice A3 t.items.length k3] 38)
   have zb : Box (wr.alloc (.cells #[.string t.name, .bool t.enum, .slice A1 t.fields.length k1, .slice A2 t.gone.length k2, .slice A3 t.items.length k3] 38)) wr.heap.size 38 [.string t.name, .bool t.enum, .slice A1 t.fields.length k1, .slice A2 t.gone.length k2, .slice A3 t.items.length k3] := Box.new wr _ _
   have hvl : ∀ k, vt.ownBlock = some k → k < wr.heap.size := fun k hk => (hot.lt hk).2
   have Hot := Lib.hid hot
   have hbx : Below wr.heap.size wr (wr.alloc (.cells #[.string t.name, .bool t.enum, .slice A1 t.fields.length k1, .slice A2 t.gone.length k2, .slice A3 t.items.length k3] 38)) := (Below.refl _ _).alloc (Nat.le_refl _) _
   have HB1 := Lib.hid hb1
   have HB2 := Lib.hid hb2
   have HB3 := Lib.hid hb3
   clear hb1 hb2 hb3 hot
   go_wp2_with fail
   have hzs : (wr.alloc (.cells #[.string t.name, .bool t.enum, .slice A1 t.fields.length k1, .slice A2 t.gone.length k2, .slice A3 t.items.length k3] 38)).heap.size = wr.heap.size + 1 := by simp
   obtain ⟨X, hX⟩ : ∃ X, X = wr.heap.size := ⟨_, rfl⟩
   rw [← hX] at zb hzs hbx ⊢
   have HX := Lib.hid hX
   have hXw : w.heap.size + 1 + 1 + 1 ≤ X := by omega
   have hzs1 : X + 1 ≤ (wr.alloc (.cells #[.string t.name, .bool t.enum, .slice A1 t.fields.length k1, .slice A2 t.gone.length k2, .slice A3 t.items.length k3] 38)).heap.size := by omega
   have hlt3 : ∀ k, vt.ownBlock = some k → k < X := fun k hk => by rw [hX]; exact hvl k hk
   generalize wr.alloc (.cells #[.string t.name, .bool t.enum, .slice A1 t.fields.length k1, .slice A2 t.gone.length k2, .slice A3 t.items.length k3] 38) = W0 at *
   clear hX hzs hb q0 q1 q2 q3 q4 hgw hvl
   have HSK := Lib.hid (fun (W' : World) (h : Box W' X 38 [.string t.name, .bool t.enum, .slice A1 t.fields.length k1, .slice A2 t.gone.length k2, .slice A3 t.items.length k3]) => (⟨h.cell 2, h.cell 3, h.cell 4⟩ : W'.cell? ⟨X, 2, none⟩ = some (.slice A1 t.fields.length k1) ∧ W'.cell? ⟨X, 3, none⟩ = some (.slice A2 t.gone.length k2) ∧ W'.cell? ⟨X, 4, none⟩ = some (.slice A3 t.items.length k3)))
   have hS := HSK.out W0.drew zb.drew
   refine late_start (fun W' => W'.cell? ⟨X, 2, none⟩ = some (.slice A1 t.fields.length k1) ∧ W'.cell? ⟨X, 3, none⟩ = some (.slice A2 t.gone.length k2) ∧ W'.cell? ⟨X, 4, none⟩ = some (.slice A3 t.items.length k3)) 10 (by kernel_rfl) ?_
   refine tkL 0 hS ?_
   try simp only [pu]
   refine tkL 1 hS ?_
   try simp only [pu]
   refine tkL 3 hS ?_
   try simp only [pu]
   refine tkL 4 hS ?_
   try simp only [pu]
   refine tkL 6 hS ?_
   try simp only [pu]
   refine tkL 7 hS ?_
   try simp only [pu]
   have hw0 := below_drew hwa
   have hx0 := below_drew hbx
   have hfs := (RSl.fair RField.fair).below HF.out hw0
   refine late_one (i := 2) rfl (by kernel_rfl) (fun K hK => ?_)
   refine step_append _ rfl (.const (.slice none 0 0)) (.tmp 14) rfl slc_fields RField.fair rfl rfl (Own.nil_ (X + 1) _ _ _ NoT _) (Src.flat (hfs.src (by decide) RField.ones)) (NoT.lt _) (by simp; omega) (by show X + 1 ≤ W0.heap.size; exact hzs1) ?_
   intro v1 w1 ho1 hg1 hv1
   rw [List.nil_append] at ho1
   have gw1 : Below W0.drew.heap.size W0.drew w1 := below_grown (Below.refl _ _) hg1 (Nat.le_refl _) (fun g h => by cases h)
   have hs1 : X + 1 ≤ w1.heap.size := Nat.le_trans hzs1 gw1.size
   have z1 := zb.drew.below gw1 zb.lt
   have hw1 := below_via hw0 gw1 hw0.size
   have hx1 := below_via hx0 gw1 (show X ≤ W0.heap.size by omega)
   have hgs := (RSl.fair RInt.fair).below HG.out hw1
   have hS := HSK.out w1 z1
   refine hK.out _ _ (fun _ => hS) ?_
   clear hK K
   try simp only [pu]
   refine tkL 9 hS ?_
   try simp only [pu]
   refine late_one (i := 5) rfl (by kernel_rfl) (fun K hK => ?_)
   refine step_append _ rfl (.const (.slice none 0 0)) (.tmp 17) rfl slc_ints RInt.fair rfl rfl (Own.nil_ (X + 1) _ _ _ NoT _) (Src.flat (hgs.src (by decide) RInt.ones)) (NoT.lt _) (by simp; omega) hs1 ?_
   intro v2 w2 ho2 hg2 hv2
   rw [List.nil_append] at ho2
   have gw2 : Below w1.heap.size w1 w2 := below_grown (Below.refl _ _) hg2 (Nat.le_refl _) (fun g h => by cases h)
   have hs2 : X + 1 ≤ w2.heap.size := Nat.le_trans hs1 gw2.size
   have z2 := z1.below gw2 z1.lt
   have hw2 := below_via hw1 gw2 hw1.size
   have hx2 := below_via hx1 gw2 (by omega)
   have ho12 := ho1.below RField.fair gw2
   have his := (RSl.fair RItem.fair).below HI.out hw2
   have hS := HSK.out w2 z2
   refine hK.out _ _ (fun _ => hS) ?_
   clear hK K
   try simp only [pu]
   refine late_one (i := 8) rfl (by kernel_rfl) (fun K hK => ?_)
   refine step_append _ rfl (.const (.slice none 0 0)) (.tmp 20) rfl slc_items RItem.fair rfl rfl (Own.nil_ (X + 1) _ _ _ NoT _) (Src.flat (his.src (by decide) RItem.ones)) (NoT.lt _) (by simp; omega) hs2 ?_
   intro v3 w3 ho3 hg3 hv3
   rw [List.nil_append] at ho3
   have gw3 : Below w2.heap.size w2 w3 := below_grown (Below.refl _ _) hg3 (Nat.le_refl _) (fun g h => by cases h)
   have hs3 : X + 1 ≤ w3.heap.size := Nat.le_trans hs2 gw3.size
   have z3 := z2.below gw3 z2.lt
   have hw3 := below_via hw2 gw3 hw2.size
   have hx3 := below_via hx2 gw3 (by omega)
   have ho13 := ho12.below RField.fair gw3
   have ho23 := ho2.below RInt.fair gw3
   have hS := HSK.out w3 z3
   obtain ⟨P1, p1, rfl, -⟩ := ho13.form
   obtain ⟨P2, p2, rfl, -⟩ := ho23.form
   obtain ⟨P3, p3, rfl, -⟩ := ho3.form
   refine hK.out _ _ (fun _ => hS) ?_
   clear hK K
   try simp only [pu]
   have f2 := z3.frozen 2
   have f3 := z3.frozen 3
   have f4 := z3.frozen 4
   have d2 := z3.cell 2
   have d3 := z3.cell 3
   have d4 := z3.cell 4
   have lz := z3.lt
   simp only [List.getElem?_cons_zero, List.getElem?_cons_succ] at d2 d3 d4
   clear hg1 hv1 ho1 gw1 hg2 hv2 ho2 gw2 hg3 hv3 gw3 ho12 hS
   refine late_one (i := 10) rfl (by kernel_rfl) (fun K hK => ?_)
   go_simp
   refine hK.out _ _ (fun h => absurd h (by decide)) ?_
   clear hK K
   try simp only [pu]
   refine late_one (i := 11) rfl (by kernel_rfl) (fun K hK => ?_)
   go_simp
   refine hK.out _ _ (fun h => absurd h (by decide)) ?_
   clear hK K
   try simp only [pu]
   refine late_one (i := 12) rfl (by kernel_rfl) (fun K hK => ?_)
   go_simp
   refine hK.out _ _ (fun h => absurd h (by decide)) ?_
   clear hK K
   try simp only [pu]
   refine late_one (i := 13) rfl (by kernel_rfl) (fun K hK => ?_)
   go_simp
   refine hK.out _ _ (fun h => absurd h (by decide)) ?_
   clear hK K
   try simp only [pu]
   refine late_one (i := 14) rfl (by kernel_rfl) (fun K hK => ?_)
   go_simp
   refine hK.out _ _ (fun h => absurd h (by decide)) ?_
   clear hK K
   try simp only [pu]
   refine late_done (by kernel_rfl) ?_ _
   have hrt : RType (fun g => X + 1 ≤ g ∧ g < w3.heap.size) w3 [.string t.name, .bool t.enum, .slice P1 t.fields.length p1, .slice P2 t.gone.length p2, .slice P3 t.items.length p3] t :=
    ⟨_, _, _, rfl, ho13.read RField.fair (fun _ h _ => h.elim) (fun k hk => ho13.lt hk) (by omega), ho23.read RInt.fair (fun _ h _ => h.elim) (fun k hk => ho23.lt hk) (by omega), ho3.read RItem.fair (fun _ h _ => h.elim) (fun k hk => ho3.lt hk) (by omega)⟩
   have hrF := RType.fair.keep hrt (((Keep.setCell w3 (a := ⟨X, 2, none⟩) (.slice P1 t.fields.length p1) (by show ¬ (X + 1 ≤ X ∧ _); omega)).trans (Keep.setCell _ (a := ⟨X, 3, none⟩) (.slice P2 t.gone.length p2) (by show ¬ (X + 1 ≤ X ∧ _); omega))).trans (Keep.setCell _ (a := ⟨X, 4, none⟩) (.slice P3 t.items.length p3) (by show ¬ (X + 1 ≤ X ∧ _); omega)))
   have zF := ((z3.set_ 2 (.slice P1 t.fields.length p1)).set_ 3 (.slice P2 t.gone.length p2)).set_ 4 (.slice P3 t.items.length p3)
   simp only [List.set_cons_zero, List.set_cons_succ] at zF
   have hxF := ((hx3.setCell (p := ⟨X, 2, none⟩) (Nat.le_refl X) (.slice P1 t.fields.length p1)).setCell (p := ⟨X, 3, none⟩) (Nat.le_refl X) (.slice P2 t.gone.length p2)).setCell (p := ⟨X, 4, none⟩) (Nat.le_refl X) (.slice P3 t.items.length p3)
   have hwF := ((hw3.setCell (p := ⟨X, 2, none⟩) (by show w.heap.size ≤ X; omega) (.slice P1 t.fields.length p1)).setCell (p := ⟨X, 3, none⟩) (by show w.heap.size ≤ X; omega) (.slice P2 t.gone.length p2)).setCell (p := ⟨X, 4, none⟩) (by show w.heap.size ≤ X; omega) (.slice P3 t.items.length p3)
   have hsF : w3.heap.size ≤ (((w3.setCell ⟨X, 2, none⟩ (.slice P1 t.fields.length p1)).setCell ⟨X, 3, none⟩ (.slice P2 t.gone.length p2)).setCell ⟨X, 4, none⟩ (.slice P3 t.items.length p3)).heap.size := by simp [World.setCell]
   generalize ((w3.setCell ⟨X, 2, none⟩ (.slice P1 t.fields.length p1)).setCell ⟨X, 3, none⟩ (.slice P2 t.gone.length p2)).setCell ⟨X, 4, none⟩ (.slice P3 t.items.length p3) = WF at *
   have hotF : OT (w.heap.size + 1 + 1 + 1) WF vt acc := Hot.out.below (by rw [← HX.out]; exact hxF)
   have b1 := HB1.out.below hxF (by omega)
   have b2 := HB2.out.below hxF (by omega)
   have b3 := HB3.out.below hxF (by omega)
   obtain ⟨T, g1, g2, g3⟩ := (hotF.alloc (.cells #[.string t.name, .bool t.enum, .slice P1 t.fields.length p1, .slice P2 t.gone.length p2, .slice P3 t.items.length p3] 38)).take (p := X + 1) (q := w3.heap.size) (RType.fair.keep hrF (Keep.alloc _ WF _)) (by omega) (by simp; omega) (fun k hk => .inl (by have := hlt3 k hk; omega))
   obtain ⟨Dt, dt, rfl, hdt⟩ := hotF.form
   have G1 := Lib.hid g1
   have G2 := Lib.hid g2
   have G3 := Lib.hid g3
   have d0 := zF.cell 0
   have d1 := zF.cell 1
   have d2 := zF.cell 2
   have d3 := zF.cell 3
   have d4 := zF.cell 4
   have dl := zF.lt
   have m0 := b3.cell 0
   have ml := b3.lt
   simp only [List.getElem?_cons_zero, List.getElem?_cons_succ] at d0 d1 d2 d3 d4 m0
   clear hrt hrF z3 zF hxF hx3 hw3 hotF g1 g2 g3 ho13 ho23 ho3 his hgs hfs f2 f3 f4 lz hs1 hs2 hs3 z1 z2 zb hx0 hx1 hx2 hw0 hw1 hw2 hbx hwa hota
   go_wp2_with (at_builtin; go_must (refine wl_append _ rfl (.tmp 26) (.tmp 28) rfl slc_types RType.fair rfl rfl G2.out (Src.one (es := [.string t.name, .bool t.enum, .slice P1 t.fields.length p1, .slice P2 t.gone.length p2, .slice P3 t.items.length p3]) (y := t) rfl (Ones.of_all rfl) G3.out (Lies.new _ _ _)) (fun g h => (G1.out g h).2) ?_ ?_ ?_))
   ·simp only [Hbl.out, List.length_cons, List.length_nil]; omega
   ·simp only [World.size_alloc]; omega
   ·intro v9 w9 ho9 hg9 hv9
    obtain ⟨A9, c9, rfl, -⟩ := ho9.form
    simp only [List.length_append, List.length_cons, List.length_nil, Nat.zero_add] at ho9 hv9
    have hot9 := OT.made G1.out hg9 ho9
    have b19 := (b1.alloc (.cells #[.string t.name, .bool t.enum, .slice P1 t.fields.length p1, .slice P2 t.gone.length p2, .slice P3 t.items.length p3] 38)).grownR G2.out (.inl (by omega)) hg9
    have b29 := (b2.alloc (.cells #[.string t.name, .bool t.enum, .slice P1 t.fields.length p1, .slice P2 t.gone.length p2, .slice P3 t.items.length p3] 38)).grownR G2.out (.inl (by omega)) hg9
    have b39 := (b3.alloc (.cells #[.string t.name, .bool t.enum, .slice P1 t.fields.length p1, .slice P2 t.gone.length p2, .slice P3 t.items.length p3] 38)).grownR G2.out (.inl (by omega)) hg9
    have hb9 := below_grown (hwF.alloc hwF.size (.cells #[.string t.name, .bool t.enum, .slice P1 t.fields.length p1, .slice P2 t.gone.length p2, .slice P3 t.items.length p3] 38)) hg9 (by simp only [World.size_alloc]; have := hwF.size; omega) (fun g' h => by have := (G2.out.lt h).1; omega)
    have k0 := b39.cell 0
    have kf := b39.frozen 0
    have kl := b39.lt
    simp only [List.getElem?_cons_zero] at k0
    clear hg9 hv9 ho9 b1 b2 b3 m0 ml d0 d1 d2 d3 d4 dl hwF
    go_wp2_with fail
    go_roundw
    case rel =>
     have h100 := b39.set_ 0 (.slice A9 (acc.length + 1) c9)
     simp only [List.set_cons_zero] at h100
     refine ⟨k + 1, _, by go_num, by omega, b19.far (p := ⟨w.heap.size + 1 + 1, 0, none⟩) (by show w.heap.size ≠ w.heap.size + 1 + 1; omega) _, b29.far (p := ⟨w.heap.size + 1 + 1, 0, none⟩) (by show w.heap.size + 1 ≠ w.heap.size + 1 + 1; omega) _, h100, ?_, hb9.setCell (p := ⟨w.heap.size + 1 + 1, 0, none⟩) (by show w.heap.size ≤ w.heap.size + 1 + 1; omega) _⟩
     rw [HTK.out]
     exact hot9.setCell (p := ⟨w.heap.size + 1 + 1, 0, none⟩) _ (by show w.heap.size + 1 + 1 < _; omega)
    case measure => simp [intOf]; omega
  ·have hkb : k = b.length := by omega
   subst hkb
   rw [List.take_length] at hot
   have c2 := hb3.cell 0
   have l2 := hb3.lt
   have f2 := hb2.frozen 0
   have l3 := hb2.lt
   have c3 := hb2.cell 0
   simp only [List.getElem?_cons_zero] at c2 c3
   obtain ⟨A', c', rfl, hc'⟩ := hot.form
   have h2 := hb2.set_ 0 (.slice A' b.length c')
   simp only [List.set_cons_zero] at h2
   have H2 := Lib.hid h2
   have HR := Lib.hid ((hot.setCell (p := ⟨w.heap.size + 1, 0, none⟩) (.slice A' b.length c') (by show w.heap.size + 1 < _; omega)).read (S := New w) (fun g hg => by show w.heap.size ≤ g; omega) hlb)
   have HW := Lib.hid (hb.setCell (p := ⟨w.heap.size + 1, 0, none⟩) (by show w.heap.size ≤ w.heap.size + 1; omega) (.slice A' b.length c'))
   clear hb1 hb2 hb3 hot hb h2
   go_wp2_with fail
   exact bodyPost_ret (copy_results H2.out rfl) rfl ⟨_, _, rfl, HR.out, HW.out⟩
end Go.Proofs.YtihdnjnhhhafkaaGreatDoor
