/- Several texts of walks and laws in one file; what each proves stands at its head. -/
import Derived.Test.YtihdnjnhhhafkaaGreatDoorProg
import Derived.Test.YtihdnjnhhhafkaaGreatDoorBase
set_option linter.all false
set_option maxRecDepth 100000
set_option maxHeartbeats 8000000
namespace Go.Proofs.YtihdnjnhhhafkaaGreatDoor
open Go.RowKit
def FindPost (S : Nat → Prop) (w : World) (r : Option TypeD) (e : Ending) (w' : World) : Prop :=
 ∃ cs, e = .returned (.tuple #[.agg cs.toArray, .bool r.isSome]) ∧ RType S w cs (r.getD .zero) ∧ Below w.heap.size w w'
theorem find_results {W : World} {a : Act} {g : Nat} {n : ByteArray} {en fd : Bool} {v1 v2 v3 : Value} (hb : Box W g 38 [.string n, .bool en, v1, v2, v3]) (h4 : a.tmps.getD 4 undef = .pointer (some ⟨g, 0, none⟩)) (h5 : a.tmps.getD 5 undef = .bool fd) :
  (results Tryz.f34 a.tmps).run Tryz.prog W = .ok (.tuple #[.agg #[.string n, .bool en, v1, v2, v3], .bool fd]) W := by
 have c0 := hb.cell 0
 have c1 := hb.cell 1
 have c2 := hb.cell 2
 have c3 := hb.cell 3
 have c4 := hb.cell 4
 simp only [List.getElem?_cons_zero, List.getElem?_cons_succ] at c0 c1 c2 c3 c4
 simp only [Array.getD_eq_getD_getElem?] at h4 h5
 simp [results, Tryz.results34, go_sem, h4, h5, c0, c1, c2, c3, c4]
theorem find_end {S : Nat → Prop} {w W : World} {a : Act} {g : Nat} {r : Option TypeD} {fd : Bool} {n : ByteArray} {en : Bool} {v1 v2 v3 : Value} (hr : RType S w [.string n, .bool en, v1, v2, v3] (r.getD .zero)) (hfd : r.isSome = fd)
  (hb : Box W g 38 [.string n, .bool en, v1, v2, v3]) (hw : Below w.heap.size w W) (h4 : a.tmps.getD 4 undef = .pointer (some ⟨g, 0, none⟩)) (h5 : a.tmps.getD 5 undef = .bool fd) (hd : a.defers = []) :
  bodyPost Tryz.prog Tryz.f34 (FindPost S w r) .ret a W :=
 bodyPost_ret (find_results hb h4 h5) hd ⟨_, by rw [hfd], hr, hw⟩
theorem find_any (S : Nat → Prop) (vb : Value) (b : BookD) (name : ByteArray) (w : World) (hb : RSl 5 96 RType S w [vb] b) :
  Calls Tryz.prog 34 #[.agg #[vb], .string name] w (FindPost S w (findT b name)) := by
 obtain ⟨A, cap, rfl, hlc, hlb⟩ := hb.form
 have HB := Lib.hid hb
 clear hb
 go_enter Tryz.func34, Tryz.ntmps34
 go_wp2_with fail
 go_loopw [11] (fun i wr => ∃ k : Nat, i = .int .i64 k ∧ k ≤ b.length ∧ Box wr (w.heap.size + 1) 38 [.string ⟨#[]⟩, .bool false, .slice none 0 0, .slice none 0 0, .slice none 0 0] ∧
   Hid (findT (b.drop k) name = findT b name) ∧ Below w.heap.size w wr) (fun i _ => b.length - (intOf i).toNat)
 case atStart =>
  refine ⟨0, rfl, by omega, ?_, rfl, ((Below.refl _ _).alloc (Nat.le_refl _) _).alloc (by simp) _⟩
  have := Box.new (w.alloc (.cells #[.slice A b.length cap] 24)) 38 [.string ⟨#[]⟩, .bool false, .slice none 0 0, .slice none 0 0, .slice none 0 0]
  simpa using this
 case round =>
  obtain ⟨k, rfl, hk, hbx, he, hb⟩ := hrel
  by_cases hlt : k < b.length
  ·obtain ⟨g, o, es, rfl, hS, hg, hes, hr, hc0⟩ := HB.out.at_ hlt
   have hc := hc0.keep (Keep.of_below hb) hS
   have hgw : g < wr.heap.size := Nat.lt_of_lt_of_le hg hb.size
   have hd : b.drop k = b[k] :: b.drop (k + 1) := List.drop_eq_getElem_cons hlt
   obtain ⟨t, hte⟩ : ∃ t, t = b[k] := ⟨_, rfl⟩
   rw [← hte] at hr hd
   rw [hd] at he
   obtain ⟨A1, k1, A2, k2, A3, k3, rfl, -, -, -⟩ := hr.parts
   have q0 : wr.cell? ⟨g, o + k * 5, none⟩ = some (.string t.name) := hc.at_ 0 rfl
   have q1 : wr.cell? ⟨g, o + k * 5 + 1, none⟩ = some (.bool t.enum) := hc.at_ 1 rfl
   have q2 : wr.cell? ⟨g, o + k * 5 + 2, none⟩ = some (.slice A1 t.fields.length k1) := hc.at_ 2 rfl
   have q3 : wr.cell? ⟨g, o + k * 5 + 3, none⟩ = some (.slice A2 t.gone.length k2) := hc.at_ 3 rfl
   have q4 : wr.cell? ⟨g, o + k * 5 + 4, none⟩ = some (.slice A3 t.items.length k3) := hc.at_ 4 rfl
   have HR := Lib.hid hr
   clear hr hc hc0 hd hte hes
   have hbn := hbx.alloc (.cells #[.string t.name, .bool t.enum, .slice A1 t.fields.length k1, .slice A2 t.gone.length k2, .slice A3 t.items.length k3] 38)
   by_cases hn : t.name = name
   ·subst hn
    have hft : findT b t.name = some t := by rw [← he.out]; simp [findT]
    have Hft := Lib.hid hft
    clear hft
    have f0 := hbn.frozen 0
    have f1 := hbn.frozen 1
    have f2 := hbn.frozen 2
    have f3 := hbn.frozen 3
    have f4 := hbn.frozen 4
    have c0 := hbn.cell 0
    have c1 := hbn.cell 1
    have c2 := hbn.cell 2
    have c3 := hbn.cell 3
    have c4 := hbn.cell 4
    simp only [List.getElem?_cons_zero, List.getElem?_cons_succ] at c0 c1 c2 c3 c4
    go_wp2_with fail
    change bodyPost _ _ _ _ _ (setCells (wr.alloc (.cells #[.string t.name, .bool t.enum, .slice A1 t.fields.length k1, .slice A2 t.gone.length k2, .slice A3 t.items.length k3] 38)) (w.heap.size + 1) 0 [.string t.name, .bool t.enum, .slice A1 t.fields.length k1, .slice A2 t.gone.length k2, .slice A3 t.items.length k3])
    have hb5 := hbn.setCells [.string t.name, .bool t.enum, .slice A1 t.fields.length k1, .slice A2 t.gone.length k2, .slice A3 t.items.length k3] rfl
    have hw5 := below_setCells (g := w.heap.size + 1) (Nat.le_succ _) [.string t.name, .bool t.enum, .slice A1 t.fields.length k1, .slice A2 t.gone.length k2, .slice A3 t.items.length k3] 0 _ (hb.alloc hb.size (.cells #[.string t.name, .bool t.enum, .slice A1 t.fields.length k1, .slice A2 t.gone.length k2, .slice A3 t.items.length k3] 38))
    generalize setCells _ (w.heap.size + 1) 0 _ = W at hb5 hw5 ⊢
    clear hbn hbx f0 f1 f2 f3 f4 c0 c1 c2 c3 c4 hb
    rw [Hft.out]
    exact find_end HR.out rfl hb5 hw5 rfl rfl rfl
   ·have hne : (t.name.toList == name.toList) = false := by rw [ba_eq]; simpa using hn
    go_wp2_with fail
    go_roundw
    case rel =>
     refine ⟨k + 1, by go_num, by omega, hbn, ?_, hb.alloc hb.size _⟩
     show _ = _
     rw [← he.out]
     simp [findT, hn]
    case measure => simp [intOf]; omega
  ·have hd : b.drop k = [] := List.drop_eq_nil_of_le (by omega)
   rw [hd] at he
   have f0 := hbx.frozen 0
   have f1 := hbx.frozen 1
   have f2 := hbx.frozen 2
   have f3 := hbx.frozen 3
   have f4 := hbx.frozen 4
   have c0 := hbx.cell 0
   have c1 := hbx.cell 1
   have c2 := hbx.cell 2
   have c3 := hbx.cell 3
   have c4 := hbx.cell 4
   simp only [List.getElem?_cons_zero, List.getElem?_cons_succ] at c0 c1 c2 c3 c4
   have Hft := Lib.hid he.out.symm
   clear he hd
   go_wp2_with fail
   change bodyPost _ _ _ _ _ (setCells wr (w.heap.size + 1) 0 [.string ⟨#[]⟩, .bool false, .slice none 0 0, .slice none 0 0, .slice none 0 0])
   have hb5 := hbx.setCells [.string ⟨#[]⟩, .bool false, .slice none 0 0, .slice none 0 0, .slice none 0 0] rfl
   have hw5 := below_setCells (g := w.heap.size + 1) (Nat.le_succ _) [.string ⟨#[]⟩, .bool false, .slice none 0 0, .slice none 0 0, .slice none 0 0] 0 _ hb
   generalize setCells _ (w.heap.size + 1) 0 _ = W at hb5 hw5 ⊢
   rw [Hft.out]
   exact find_end (r := none) RType.zero rfl hb5 hw5 rfl rfl rfl
def FieldPost (w : World) (r : Option FieldD) (e : Ending) (w' : World) : Prop :=
 e = .returned (.tuple #[.agg (fieldCells (r.getD .zero)).toArray, .bool r.isSome]) ∧ Below w.heap.size w w'
theorem fieldOf_results {W : World} {a : Act} {g : Nat} {f : FieldD} {fd : Bool} (hb : Box W g 43 (fieldCells f)) (h4 : a.tmps.getD 4 undef = .pointer (some ⟨g, 0, none⟩)) (h5 : a.tmps.getD 5 undef = .bool fd) :
  (results Tryz.f44 a.tmps).run Tryz.prog W = .ok (.tuple #[.agg (fieldCells f).toArray, .bool fd]) W := by
 have c0 := hb.cell 0
 have c1 := hb.cell 1
 have c2 := hb.cell 2
 have c3 := hb.cell 3
 have c4 := hb.cell 4
 simp only [fieldCells, List.getElem?_cons_zero, List.getElem?_cons_succ] at c0 c1 c2 c3 c4
 simp only [Array.getD_eq_getD_getElem?] at h4 h5
 simp [results, Tryz.results44, go_sem, h4, h5, c0, c1, c2, c3, c4, fieldCells]
theorem fieldOf_end {w W : World} {a : Act} {g : Nat} {r : Option FieldD} {fd : Bool} (hfd : r.isSome = fd)
  (hb : Box W g 43 (fieldCells (r.getD .zero))) (hw : Below w.heap.size w W) (h4 : a.tmps.getD 4 undef = .pointer (some ⟨g, 0, none⟩)) (h5 : a.tmps.getD 5 undef = .bool fd) (hd : a.defers = []) :
  bodyPost Tryz.prog Tryz.f44 (FieldPost w r) .ret a W :=
 bodyPost_ret (fieldOf_results hb h4 h5) hd ⟨by rw [hfd], hw⟩
theorem fieldOf_any (S : Nat → Prop) (cs : List Value) (t : TypeD) (id : Int) (w : World) (ht : RType S w cs t) :
  Calls Tryz.prog 44 #[.agg cs.toArray, .int .i64 id] w (FieldPost w (fieldOf t id)) := by
 obtain ⟨A1, k1, A2, k2, A3, k3, rfl, hf, -, -⟩ := ht.parts
 obtain ⟨A', cap', h', hlc, hlb⟩ := hf.form
 have HB := Lib.hid hf
 clear hf h' ht
 go_enter Tryz.func44, Tryz.ntmps44
 go_wp2_with fail
 go_loopw [11] (fun i wr => ∃ k : Nat, i = .int .i64 k ∧ k ≤ t.fields.length ∧ Box wr (w.heap.size + 1) 43 [.int .i64 0, .string ⟨#[]⟩, .string ⟨#[]⟩, .int .i64 0, .int .i64 0] ∧
   Hid ((t.fields.drop k).find? (fun f => decide (f.id = id)) = fieldOf t id) ∧ Below w.heap.size w wr) (fun i _ => t.fields.length - (intOf i).toNat)
 case atStart =>
  refine ⟨0, rfl, by omega, ?_, rfl, ((Below.refl _ _).alloc (Nat.le_refl _) _).alloc (by simp) _⟩
  have := Box.new (w.alloc (.cells #[.string t.name, .bool t.enum, .slice A1 t.fields.length k1, .slice A2 t.gone.length k2, .slice A3 t.items.length k3] 38)) 43 [.int .i64 0, .string ⟨#[]⟩, .string ⟨#[]⟩, .int .i64 0, .int .i64 0]
  simpa using this
 case round =>
  obtain ⟨k, rfl, hk, hbx, he, hb⟩ := hrel
  by_cases hlt : k < t.fields.length
  ·obtain ⟨g, o, es, rfl, hS, hg, hes, hr, hc0⟩ := HB.out.at_ hlt
   have hc := hc0.keep (Keep.of_below hb) hS
   have hgw : g < wr.heap.size := Nat.lt_of_lt_of_le hg hb.size
   have hd : t.fields.drop k = t.fields[k] :: t.fields.drop (k + 1) := List.drop_eq_getElem_cons hlt
   obtain ⟨f, hte⟩ : ∃ f, f = t.fields[k] := ⟨_, rfl⟩
   rw [← hte] at hr hd
   rw [hd] at he
   have hr' : es = fieldCells f := hr
   subst hr'
   have q0 : wr.cell? ⟨g, o + k * 5, none⟩ = some (.int .i64 f.id) := hc.at_ 0 rfl
   have q1 : wr.cell? ⟨g, o + k * 5 + 1, none⟩ = some (.string f.name) := hc.at_ 1 rfl
   have q2 : wr.cell? ⟨g, o + k * 5 + 2, none⟩ = some (.string f.type) := hc.at_ 2 rfl
   have q3 : wr.cell? ⟨g, o + k * 5 + 3, none⟩ = some (.int .i64 f.kind) := hc.at_ 3 rfl
   have q4 : wr.cell? ⟨g, o + k * 5 + 4, none⟩ = some (.int .i64 f.rule) := hc.at_ 4 rfl
   clear hr hc hc0 hd hte hes
   have hbn := hbx.alloc (.cells #[.int .i64 f.id, .string f.name, .string f.type, .int .i64 f.kind, .int .i64 f.rule] 43)
   by_cases hn : f.id = id
   ·subst hn
    have hft : fieldOf t f.id = some f := by rw [← he.out]; simp
    have Hft := Lib.hid hft
    clear hft
    have f0 := hbn.frozen 0
    have f1 := hbn.frozen 1
    have f2 := hbn.frozen 2
    have f3 := hbn.frozen 3
    have f4 := hbn.frozen 4
    have c0 := hbn.cell 0
    have c1 := hbn.cell 1
    have c2 := hbn.cell 2
    have c3 := hbn.cell 3
    have c4 := hbn.cell 4
    simp only [List.getElem?_cons_zero, List.getElem?_cons_succ] at c0 c1 c2 c3 c4
    go_wp2_with fail
    change bodyPost _ _ _ _ _ (setCells (wr.alloc (.cells #[.int .i64 f.id, .string f.name, .string f.type, .int .i64 f.kind, .int .i64 f.rule] 43)) (w.heap.size + 1) 0 [.int .i64 f.id, .string f.name, .string f.type, .int .i64 f.kind, .int .i64 f.rule])
    have hb5 := hbn.setCells [.int .i64 f.id, .string f.name, .string f.type, .int .i64 f.kind, .int .i64 f.rule] rfl
    have hw5 := below_setCells (g := w.heap.size + 1) (Nat.le_succ _) [.int .i64 f.id, .string f.name, .string f.type, .int .i64 f.kind, .int .i64 f.rule] 0 _ (hb.alloc hb.size (.cells #[.int .i64 f.id, .string f.name, .string f.type, .int .i64 f.kind, .int .i64 f.rule] 43))
    generalize setCells _ (w.heap.size + 1) 0 _ = W at hb5 hw5 ⊢
    rw [Hft.out]
    exact fieldOf_end (r := some f) rfl hb5 hw5 rfl rfl rfl
   ·go_wp2_with fail
    go_roundw
    case rel =>
     refine ⟨k + 1, by go_num, by omega, hbn, ?_, hb.alloc hb.size _⟩
     show _ = _
     rw [← he.out]
     simp [hn]
    case measure => simp [intOf]; omega
  ·have hd : t.fields.drop k = [] := List.drop_eq_nil_of_le (by omega)
   rw [hd] at he
   have f0 := hbx.frozen 0
   have f1 := hbx.frozen 1
   have f2 := hbx.frozen 2
   have f3 := hbx.frozen 3
   have f4 := hbx.frozen 4
   have c0 := hbx.cell 0
   have c1 := hbx.cell 1
   have c2 := hbx.cell 2
   have c3 := hbx.cell 3
   have c4 := hbx.cell 4
   simp only [List.getElem?_cons_zero, List.getElem?_cons_succ] at c0 c1 c2 c3 c4
   have Hft := Lib.hid he.out.symm
   clear he hd
   go_wp2_with fail
   change bodyPost _ _ _ _ _ (setCells wr (w.heap.size + 1) 0 [.int .i64 0, .string ⟨#[]⟩, .string ⟨#[]⟩, .int .i64 0, .int .i64 0])
   have hb5 := hbx.setCells [.int .i64 0, .string ⟨#[]⟩, .string ⟨#[]⟩, .int .i64 0, .int .i64 0] rfl
   have hw5 := below_setCells (g := w.heap.size + 1) (Nat.le_succ _) [.int .i64 0, .string ⟨#[]⟩, .string ⟨#[]⟩, .int .i64 0, .int .i64 0] 0 _ hb
   generalize setCells _ (w.heap.size + 1) 0 _ = W at hb5 hw5 ⊢
   rw [Hft.out]
   exact fieldOf_end (r := none) rfl hb5 hw5 rfl rfl rfl
theorem number_any (n : Int) (w : World) : Calls Tryz.prog 45 #[.int .i64 n] w (Ret w (.bool (decide (1 ≤ n ∧ n ≤ 30)))) := by
 go_enter Tryz.func45, Tryz.ntmps45
 go_wp2
 all_goals
  go_ret
  refine ⟨ret_b ?_, Below.refl _ _⟩
  go_tidy
  simp at *
  omega
end Go.Proofs.YtihdnjnhhhafkaaGreatDoor
namespace Go.Proofs.YtihdnjnhhhafkaaGreatDoor
open Go.RowKit
def Pur (w : World) (v : Value) (e : Ending) (w' : World) : Prop := e = .returned v ∧ w' = w
theorem Pur.ret {w : World} {v : Value} {e : Ending} {w' : World} (h : Pur w v e w') : Ret w v e w' := ⟨h.1, h.2 ▸ Below.refl _ _⟩
theorem RSl.drewN {α : Type} {sz by_ : Nat} {R : Rel α} (hR : Fair R) {S : Nat → Prop} {w : World} {cs : List Value} {x : List α} (h : RSl sz by_ R S w cs x) (n : Nat) : RSl sz by_ R S (w.drewN n) cs x := (RSl.fair hR).keep h (Keep.drewN S w n)
theorem indexS_any (S : Nat → Prop) (v : Value) (l : List ByteArray) (x : ByteArray) (w : World) (hl : RSl 1 16 RStr S w [v] l) :
  Calls Tryz.prog 47 #[v, .string x] w (Pur w (.int .i64 (idxS l x))) := by
 obtain ⟨A, cap, rfl, hlc, hlb⟩ := hl.form
 have HL := Lib.hid hl
 clear hl
 go_enter Tryz.func47, Tryz.ntmps47
 go_wp2_with fail
 go_loop [8] (fun i => ∃ k : Nat, i = .int .i64 k ∧ k ≤ l.length ∧ Hid (∀ j (hj : j < l.length), j < k → l[j] ≠ x)) (fun i => l.length - (intOf i).toNat)
 case atStart => exact ⟨0, rfl, by omega, (fun j _ hj => absurd hj (by omega) : ∀ j (hj : j < l.length), j < 0 → l[j] ≠ x)⟩
 case round =>
  obtain ⟨k, rfl, hk, hn⟩ := hrel
  by_cases hlt : k < l.length
  ·obtain ⟨g, o, es, rfl, hS, hg, hes, hr, hc⟩ := HL.out.at_ hlt
   obtain ⟨y, hye⟩ : ∃ y, y = l[k] := ⟨_, rfl⟩
   rw [← hye] at hr
   have hr' : es = [.string y] := hr
   subst hr'
   have q0 : w.cell? ⟨g, o + k * 1, none⟩ = some (.string y) := hc.at_ 0 rfl
   rw [Nat.mul_one] at q0
   have Hye := Lib.hid hye
   clear hr hc hye hes
   by_cases he : x = y
   ·subst he
    have hi := idxS_hit hlt Hye.out.symm (fun j hj => hn.out j (by omega) hj)
    have Hi := Lib.hid hi
    clear hi
    go_wp2_with fail
    go_ret
    exact ⟨ret_i Hi.out.symm, rfl⟩
   ·have hne : (x.toList == y.toList) = false := by rw [ba_eq]; simpa using he
    go_wp2_with fail
    go_round
    case rel =>
     refine ⟨k + 1, by go_num, by omega, ?_⟩
     show ∀ j (hj : j < l.length), j < k + 1 → l[j] ≠ x
     intro j hj hjk
     by_cases hjk' : j < k
     ·exact hn.out j hj hjk'
     ·have : j = k := by omega
      subst this
      rw [← Hye.out]; exact fun h => he h.symm
    case measure => simp [intOf]; omega
  ·have hi := idxS_none (l := l) (x := x) (fun j hj => hn.out j hj (by omega))
   have Hi := Lib.hid hi
   clear hi
   go_wp2_with fail
   go_ret
   exact ⟨ret_i Hi.out.symm, rfl⟩
theorem containsS_any (S : Nat → Prop) (v : Value) (l : List ByteArray) (x : ByteArray) (w : World) (hl : RSl 1 16 RStr S w [v] l) :
  Calls Tryz.prog 32 #[v, .string x] w (Pur w (.bool (hasS l x))) := by
 have HL := Lib.hid hl
 clear hl
 go_enter Tryz.func32, Tryz.ntmps32
 go_wp2_with fail
 refine (indexS_any S v l x _ HL.out).mono ?_
 rintro e w1 ⟨rfl, rfl⟩
 have Hi := Lib.hid (idxS_has l x)
 go_wp2_with fail
 go_ret
 exact ⟨ret_b (by first | exact Hi.out | (rw [← Hi.out]; simp)), rfl⟩
def Words (w : World) : Prop := ∃ v, w.cell? ⟨0, 0, none⟩ = some v ∧ RSl 1 16 RStr (fun _ => True) w [v] wordsL
theorem Words.below {w w' : World} (h : Words w) (hb : Below w.heap.size w w') : Words w' := by
 obtain ⟨v, hc, hr⟩ := h
 refine ⟨v, ?_, (RSl.fair RStr.fair).below hr hb⟩
 rw [World.cell?_of_block (w := w) (hb.block _ (World.block_lt_of_cell? w _ hc))]
 exact hc
theorem Words.drewN {w : World} (h : Words w) (n : Nat) : Words (w.drewN n) := h.below ⟨rfl, rfl, rfl, Nat.le_refl _, fun _ _ => rfl⟩
theorem Words.drew {w : World} (h : Words w) : Words w.drew := h.below ⟨rfl, rfl, rfl, Nat.le_refl _, fun _ _ => rfl⟩
theorem named_any (s : ByteArray) (w : World) (hs : s.size ≤ 9223372036854775807) (hw : Words w) :
  Calls Tryz.prog 28 #[.string s] w (Pur w (.bool (namedF s))) := by
 obtain ⟨v, hv, hr⟩ := hw
 have HR := Lib.hid hr
 have hgl := World.block_lt_of_cell? w _ hv
 clear hr
 go_enter Tryz.func28, Tryz.ntmps28
 go_wp2_with fail
 go_loop [6] (fun i => ∃ k : Nat, i = .int .i64 k ∧ k ≤ s.size ∧ Hid (((bytes s).take k).all (fun c => decide (97 ≤ c.toNat ∧ c.toNat ≤ 122)) = true)) (fun i => s.size - (intOf i).toNat)
 case atStart => exact ⟨0, rfl, by omega, rfl⟩
 case round =>
  obtain ⟨k, rfl, hk, hn⟩ := hrel
  by_cases hlt : k < s.size
  ·by_cases hc : 97 ≤ s[k].toNat ∧ s[k].toNat ≤ 122
   ·obtain ⟨hc1, hc2⟩ := hc
    go_wp2_with fail
    go_round
    case rel =>
     refine ⟨k + 1, by go_num, by omega, ?_⟩
     show _ = true
     rw [List.take_succ_eq_append_getElem (show k < (bytes s).length from hlt), List.all_append, hn.out]
     simp only [List.all_cons, List.all_nil, Bool.true_and, Bool.and_true, decide_eq_true_eq]
     exact ⟨hc1, hc2⟩
    case measure => simp [intOf]; omega
   ·have hf : namedF s = false := by
     have : (bytes s).all (fun c => decide (97 ≤ c.toNat ∧ c.toNat ≤ 122)) = false := by
      rw [List.all_eq_false]
      exact ⟨(bytes s)[k]'hlt, List.getElem_mem _, fun h => hc (of_decide_eq_true h)⟩
     rw [namedF, this]; rfl
    have Hf := Lib.hid hf
    clear hf
    by_cases hc1 : s[k].toNat < 97
    ·go_wp2_with fail
     go_ret
     exact ⟨ret_b Hf.out.symm, rfl⟩
    ·have hc2 : 122 < s[k].toNat := by omega
     go_wp2_with fail
     go_ret
     exact ⟨ret_b Hf.out.symm, rfl⟩
  ·have hks : k = s.size := by omega
   have hall : (bytes s).all (fun c => decide (97 ≤ c.toNat ∧ c.toNat ≤ 122)) = true := by
    have := hn.out
    rw [List.take_of_length_le (by rw [bytes_len]; omega)] at this
    exact this
   have hf : namedF s = (decide (1 ≤ s.size ∧ s.size ≤ 12) && !hasS wordsL s) := by rw [namedF, hall]; rfl
   have Hf := Lib.hid hf
   clear hf hall
   by_cases h1 : 1 ≤ s.size ∧ s.size ≤ 12
   ·obtain ⟨h1, h2⟩ := h1
    have hb2 : Hid (namedF s = !hasS wordsL s) := by show _ = _; rw [Hf.out]; simp [h1, h2]
    go_wp2_with fail
    refine (containsS_any _ v wordsL s _ HR.out).mono ?_
    rintro e w1 ⟨rfl, rfl⟩
    go_wp2_with fail
    go_ret
    exact ⟨ret_b hb2.out.symm, rfl⟩
   ·have hb2 : Hid (namedF s = false) := by show _ = _; rw [Hf.out]; simp only [decide_eq_false h1, Bool.false_and]
    by_cases h0 : 1 ≤ s.size
    ·have h3 : 12 < s.size := by omega
     go_wp2_with fail
     go_ret
     exact ⟨ret_b hb2.out.symm, rfl⟩
    ·have h3 : s.size = 0 := by omega
     go_wp2_with fail
     go_ret
     exact ⟨ret_b hb2.out.symm, rfl⟩
theorem named_quiet (s : ByteArray) (w : World) (n : Nat) {r : Bool} (hr : namedF s = r) (hs : s.size ≤ 9223372036854775807) (hw : Words w) :
  Calls Tryz.prog 28 #[.string s] (w.drewN n) fun e w'' => e = .returned (.bool r) ∧ ∃ m, w'' = w.drewN m :=
 Calls.quiet_of_same (by subst hr; exact named_any s _ hs (hw.drewN n))
theorem number_pur (n : Int) (w : World) : Calls Tryz.prog 45 #[.int .i64 n] w (Pur w (.bool (decide (1 ≤ n ∧ n ≤ 30)))) := by
 go_enter Tryz.func45, Tryz.ntmps45
 go_wp2
 all_goals
  go_ret
  refine ⟨ret_b ?_, rfl⟩
  go_tidy
  simp at *
  omega
theorem number_quiet (x : Int) (w : World) (n : Nat) {r : Bool} (hr : decide (1 ≤ x ∧ x ≤ 30) = r) :
  Calls Tryz.prog 45 #[.int .i64 x] (w.drewN n) fun e w'' => e = .returned (.bool r) ∧ ∃ m, w'' = w.drewN m :=
 Calls.quiet_of_same (by subst hr; exact number_pur x _)
end Go.Proofs.YtihdnjnhhhafkaaGreatDoor
namespace Go.Proofs.YtihdnjnhhhafkaaGreatDoor
open Go.RowKit
theorem least_any (S : Nat → Prop) (vb : Value) (b : BookD) : ∀ (left : Nat), left ≤ 4 → ∀ (name : ByteArray) (w : World), RSl 5 96 RType S w [vb] b →
  Calls Tryz.prog 46 #[.agg #[vb], .string name, .int .i64 left] w (Ret w (.int .i64 (leastF b left name))) := by
 intro left
 induction left with
 | zero =>
  intro _ name w hb
  have HB := Lib.hid hb
  obtain ⟨A, cap, rfl, hlc, hlb⟩ := hb.form
  clear hb
  go_enter Tryz.func46, Tryz.ntmps46
  go_wp2_with fail
  have hbk := (RSl.fair RType.fair).below HB.out ((Below.refl w.heap.size w).alloc (Nat.le_refl _) (.cells #[.slice A b.length cap] 24))
  refine (find_any S _ b name _ hbk).mono ?_
  rintro e w1 ⟨cs, rfl, hr, hb1⟩
  obtain ⟨A1, k1, A2, k2, A3, k3, rfl, -, -, -⟩ := hr.parts
  have hbw : Below w.heap.size w w1 := below_via ((Below.refl w.heap.size w).alloc (Nat.le_refl _) _) hb1 (by simp)
  clear hb1 hr hbk
  generalize (findT b name).getD TypeD.zero = t at *
  by_cases hfd : (findT b name).isSome = true
  ·rw [hfd]
   by_cases hte : t.enum = true
   ·rw [hte]
    go_wp2_with fail
    go_ret
    exact ⟨rfl, hbw.alloc hbw.size _⟩
   ·simp only [Bool.not_eq_true] at hte
    rw [hte]
    go_wp2_with fail
    go_ret
    exact ⟨rfl, hbw.alloc hbw.size _⟩
  ·simp only [Bool.not_eq_true] at hfd
   rw [hfd]
   go_wp2_with fail
   go_ret
   exact ⟨rfl, hbw.alloc hbw.size _⟩
 | succ left ih =>
  intro hleft name w hb
  have IH := Lib.hid ih
  have HB := Lib.hid hb
  obtain ⟨A, cap, rfl, hlc, hlb⟩ := hb.form
  clear hb ih
  go_enter Tryz.func46, Tryz.ntmps46
  go_wp2_with fail
  have hbk := (RSl.fair RType.fair).below HB.out ((Below.refl w.heap.size w).alloc (Nat.le_refl _) (.cells #[.slice A b.length cap] 24))
  refine (find_any S _ b name _ hbk).mono ?_
  rintro e w1 ⟨cs, rfl, hr, hb1⟩
  have hbw : Below w.heap.size w w1 := below_via ((Below.refl w.heap.size w).alloc (Nat.le_refl _) _) hb1 (by simp)
  have hbox : Box w1 w.heap.size 24 [.slice A b.length cap] := (Box.new w _ _).below hb1 (by simp)
  have hr1 := RType.fair.keep hr (Keep.of_below hb1)
  have hlt1 := hbox.lt
  clear hb1 hr hbk
  cases hfd : findT b name with
  | none =>
   have hl : leastF b (left + 1) name = 0 := by rw [leastF, hfd]
   have Hl := Lib.hid hl
   clear hl
   rw [hfd] at hr1
   obtain ⟨A1, k1, A2, k2, A3, k3, rfl, -, -, -⟩ := hr1.parts
   simp only [Option.getD_none, Option.isSome_none, TypeD.zero]
   go_wp2_with fail
   go_ret
   exact ⟨ret_i (by rw [Hl.out]; rfl), hbw.alloc hbw.size _⟩
  | some t =>
   rw [hfd] at hr1
   simp only [Option.getD_some, Option.isSome_some] at hr1 ⊢
   obtain ⟨A1, k1, A2, k2, A3, k3, rfl, hf, -, -⟩ := hr1.parts
   have HF := Lib.hid hf
   obtain ⟨Af, kf, hff, hflc, hflb⟩ := hf.form
   clear hr1 hf hff
   by_cases hte : t.enum = true
   ·have hl : leastF b (left + 1) name = 0 := by rw [leastF, hfd]; simp [hte]
    have Hl := Lib.hid hl
    clear hl
    rw [hte]
    go_wp2_with fail
    go_ret
    exact ⟨ret_i (by rw [Hl.out]; rfl), hbw.alloc hbw.size _⟩
   ·simp only [Bool.not_eq_true] at hte
    by_cases h5 : 5 < t.fields.length
    ·have hl : leastF b (left + 1) name = 0 := by rw [leastF, hfd]; simp [h5]
     have Hl := Lib.hid hl
     clear hl
     rw [hte]
     go_wp2_with fail
     go_ret
     exact ⟨ret_i (by rw [Hl.out]; rfl), hbw.alloc hbw.size _⟩
    ·have hl : leastF b (left + 1) name = leastGo (leastF b left) t.fields 1 := by rw [leastF, hfd]; simp [hte, h5]
     have Hl := Lib.hid hl
     clear hl
     have hl0 : ((left : Int) + 1 == 0) = false := by rw [beq_eq_false_iff_ne]; omega
     have h5' : ¬ 5 < (t.fields.length : Int) := by omega
     have h5l : t.fields.length ≤ 5 := by omega
     rw [hte]
     go_wp2_with fail
     go_loopw [9, 38] (fun v i wr => ∃ (k n : Nat), i = .int .i64 k ∧ k ≤ t.fields.length ∧ v = .int .i64 n ∧ n ≤ 1 + k * 216 ∧ Hid (leastGo (leastF b left) (t.fields.drop k) n = leastGo (leastF b left) t.fields 1) ∧
       Box wr w.heap.size 24 [.slice A b.length cap] ∧ Below w1.heap.size w1 wr) (fun _ i _ => t.fields.length - (intOf i).toNat)
     case atStart => exact ⟨0, 1, rfl, by omega, rfl, by omega, rfl, hbox.alloc _, (Below.refl _ _).alloc (Nat.le_refl _) _⟩
     case round =>
      obtain ⟨k, n, rfl, hk, rfl, hn, he, hbx, hb⟩ := hrel
      have hbw2 : Below w.heap.size w wr := below_via hbw hb hbw.size
      by_cases hlt : k < t.fields.length
      ·obtain ⟨g, o, es, rfl, hS, hg, hes, hr, hc0⟩ := HF.out.at_ hlt
       have hc := hc0.keep (Keep.of_below hb) hS
       have hgw : g < wr.heap.size := Nat.lt_of_lt_of_le hg hb.size
       have hd : t.fields.drop k = t.fields[k] :: t.fields.drop (k + 1) := List.drop_eq_getElem_cons hlt
       obtain ⟨f, hfe⟩ : ∃ f, f = t.fields[k] := ⟨_, rfl⟩
       rw [← hfe] at hr hd
       rw [hd, leastGo] at he
       have hr' : es = fieldCells f := hr
       subst hr'
       have q0 : wr.cell? ⟨g, o + k * 5, none⟩ = some (.int .i64 f.id) := hc.at_ 0 rfl
       have q1 : wr.cell? ⟨g, o + k * 5 + 1, none⟩ = some (.string f.name) := hc.at_ 1 rfl
       have q2 : wr.cell? ⟨g, o + k * 5 + 2, none⟩ = some (.string f.type) := hc.at_ 2 rfl
       have q3 : wr.cell? ⟨g, o + k * 5 + 3, none⟩ = some (.int .i64 f.kind) := hc.at_ 3 rfl
       have q4 : wr.cell? ⟨g, o + k * 5 + 4, none⟩ = some (.int .i64 f.rule) := hc.at_ 4 rfl
       have b0 : wr.cell? ⟨w.heap.size, 0, none⟩ = some (.slice A b.length cap) := hbx.cell 0
       have hltw : w.heap.size < wr.heap.size := hbx.lt
       have hbnew := hbx.alloc (.cells (fieldCells f).toArray 43)
       have hbk := (RSl.fair RType.fair).below HB.out (hbw2.alloc hbw2.size (.cells (fieldCells f).toArray 43))
       have hbn1 := hb.alloc hb.size (.cells (fieldCells f).toArray 43)
       have Hbk := Lib.hid hbk
       clear hr hc hc0 hd hfe hes hbk
       by_cases h1 : f.rule = 1
       ·rw [if_pos h1] at he
        obtain ⟨fid, fname, ftype, fkind, frule⟩ := f
        dsimp only at h1 he q0 q1 q2 q3 q4
        subst h1
        by_cases hk5 : fkind = 5
        ·rw [if_pos hk5] at he
         subst hk5
         have hm := leastF_216 b (left := left) (by omega) ftype
         go_wp2_with fail
         refine (IH.out (by omega) ftype _ Hbk.out).mono ?_
         rintro e w3 ⟨rfl, hb3⟩
         have hbx3 := hbnew.below hb3 hbnew.lt
         have hbn3 := below_via hbn1 hb3 hbn1.size
         generalize leastF b left ftype = m at *
         by_cases hm0 : m = 0
         ·subst hm0
          rw [if_pos rfl] at he
          go_wp2_with fail
          go_ret
          exact ⟨ret_i (by rw [Hl.out, ← he.out]; rfl), below_via hbw hbn3 hbw.size⟩
         ·rw [if_neg hm0] at he
          have hm0' : ¬ (m : Int) = 0 := by omega
          go_wp2_with fail
          go_roundw
          case rel => exact ⟨k + 1, n + m, by go_num, by omega, by go_num, by omega, he, hbx3, hbn3⟩
          case measure => simp [intOf]; omega
        ·rw [if_neg hk5] at he
         go_wp2_with fail
         go_roundw
         case rel => exact ⟨k + 1, n + 1, by go_num, by omega, by go_num, by omega, he, hbnew, hbn1⟩
         case measure => simp [intOf]; omega
       ·rw [if_neg h1] at he
        go_wp2_with fail
        go_roundw
        case rel => exact ⟨k + 1, n, by go_num, by omega, rfl, by omega, he, hbnew, hbn1⟩
        case measure => simp [intOf]; omega
      ·have hd : t.fields.drop k = [] := List.drop_eq_nil_of_le (by omega)
       rw [hd, leastGo] at he
       go_wp2_with fail
       go_ret
       exact ⟨ret_i (by rw [Hl.out, ← he.out]), hbw2⟩
end Go.Proofs.YtihdnjnhhhafkaaGreatDoor
namespace Go.Proofs.YtihdnjnhhhafkaaGreatDoor
open Go.RowKit
theorem leastOf4_any (S : Nat → Prop) (vb : Value) (b : BookD) (name : ByteArray) (w : World) (hb : RSl 5 96 RType S w [vb] b) :
  Calls Tryz.prog 31 #[.agg #[vb], .string name] w (Ret w (.int .i64 (leastF b 4 name))) := by
 obtain ⟨A, cap, rfl, _, _⟩ := hb.form
 have hbk := (RSl.fair RType.fair).below hb ((Below.refl w.heap.size w).alloc (Nat.le_refl _) (.cells #[.slice A b.length cap] 24))
 have Hbk := Lib.hid hbk
 clear hb hbk
 go_enter Tryz.func31, Tryz.ntmps31
 go_wp2_with fail
 refine (least_any S _ b 4 (by omega) name _ Hbk.out).mono ?_
 rintro e w1 ⟨rfl, hb1⟩
 have hbw : Below w.heap.size w w1 := below_via ((Below.refl w.heap.size w).alloc (Nat.le_refl _) _) hb1 (by simp)
 go_wp2_with fail
 go_ret
 exact ⟨rfl, hbw⟩
end Go.Proofs.YtihdnjnhhhafkaaGreatDoor
namespace Go.Proofs.YtihdnjnhhhafkaaGreatDoor
open Go.RowKit
def EnumAt (t : TypeD) (i : Nat) (h : i < t.items.length) : Prop := namedF t.items[i].name = true ∧ -1099511627776 ≤ t.items[i].n ∧ t.items[i].n ≤ 1099511627776 ∧ (∀ (_ : 0 < i), t.items[i - 1].n < t.items[i].n) ∧ ∀ j (_ : j < i), t.items[i].name ≠ t.items[j].name
theorem enum_no {t : TypeD} {i : Nat} (h : i < t.items.length) (hn : ¬ EnumAt t i h) : enumF t = false := by
 unfold enumF
 rw [decide_eq_false_iff_not]
 intro hp
 exact hn (hp.1 i h)
theorem enum_end {t : TypeD} (h : ∀ i (h : i < t.items.length), EnumAt t i h) : enumF t = decide (1 ≤ t.items.length ∧ t.items.length ≤ 6 ∧ t.fields.length = 0 ∧ t.gone.length = 0) := by
 unfold enumF
 exact decide_eq_decide.2 ⟨fun hp => hp.2, fun hp => ⟨h, hp⟩⟩
theorem enum_any (S : Nat → Prop) (cs : List Value) (t : TypeD) (w : World) (ht : RType S w cs t) (hW : Words w) (hsz : ∀ x ∈ t.items, x.name.size ≤ 140737488351232) :
  Calls Tryz.prog 29 #[.agg cs.toArray] w (Ret w (.bool (enumF t))) := by
 obtain ⟨A1, k1, A2, k2, A3, k3, rfl, hf, hgn, hi⟩ := ht.parts
 obtain ⟨Ai, ki, hii, hilc, hilb⟩ := hi.form
 obtain ⟨Af, kf, hff, hflc, hflb⟩ := hf.form
 obtain ⟨Ag, kg, hgg, hglc, hglb⟩ := hgn.form
 have HI := Lib.hid hi
 have HW := Lib.hid hW
 have HSZ := Lib.hid hsz
 have hki : t.items.length ≤ k3 := by injection hii; omega
 clear ht hi hf hgn hW hsz hii hff hgg
 go_enter Tryz.func29, Tryz.ntmps29
 go_wp2_with fail
 go_loopw [10] (fun i wr => ∃ k : Nat, i = .int .i64 k ∧ k ≤ t.items.length ∧ Hid (∀ j (h : j < t.items.length), j < k → EnumAt t j h) ∧
   Box wr w.heap.size 38 [.string t.name, .bool t.enum, .slice A1 t.fields.length k1, .slice A2 t.gone.length k2, .slice A3 t.items.length k3] ∧ Below w.heap.size w wr) (fun i _ => t.items.length - (intOf i).toNat)
 case atStart => exact ⟨0, rfl, by omega, (fun j _ hj => absurd hj (by omega) : ∀ j (h : j < t.items.length), j < 0 → EnumAt t j h), Box.new w _ _, (Below.refl _ _).alloc (Nat.le_refl _) _⟩
 case round =>
  obtain ⟨k, rfl, hk, he, hbx, hb⟩ := hrel
  have hltw : w.heap.size < wr.heap.size := hbx.lt
  have b4 : wr.cell? ⟨w.heap.size, 4, none⟩ = some (.slice A3 t.items.length k3) := hbx.cell 4
  by_cases hlt : k < t.items.length
  ·obtain ⟨g, o, rfl, hS, hg⟩ := HI.out.base (by omega)
   have hc := (HI.out.flat (enc := itemCells) hlt).keep (Keep.of_below hb) hS
   have hgw : g < wr.heap.size := Nat.lt_of_lt_of_le hg hb.size
   have hxs := HSZ.out t.items[k] (List.getElem_mem hlt)
   have hno0 : ¬ EnumAt t k hlt → enumF t = false := enum_no hlt
   unfold EnumAt at hno0
   have hpv : 0 < k → wr.cell? ⟨g, o + (k - 1) * 2 + 1, none⟩ = some (.int .i64 t.items[k - 1].n) := fun h0 =>
    ((HI.out.flat (enc := itemCells) (show k - 1 < t.items.length by omega)).keep (Keep.of_below hb) hS).at_ 1 rfl
   obtain ⟨x, hxe⟩ : ∃ x, x = t.items[k] := ⟨_, rfl⟩
   rw [← hxe] at hc hxs hno0
   obtain ⟨xname, xn⟩ := x
   dsimp only at hxs hno0
   have q0 : wr.cell? ⟨g, o + k * 2, none⟩ = some (.string xname) := hc.at_ 0 rfl
   have q1 : wr.cell? ⟨g, o + k * 2 + 1, none⟩ = some (.int .i64 xn) := hc.at_ 1 rfl
   have Hxe := Lib.hid hxe
   clear hc hxe
   have hwa := hb.alloc hb.size (.cells #[.string xname, .int .i64 xn] 62)
   have hbt := hbx.alloc (.cells #[.string xname, .int .i64 xn] 62)
   have HWn := Lib.hid (HW.out.below hwa)
   by_cases hnm : namedF xname = true
   ·by_cases hlo : xn < -1099511627776
    ·have Hno := Lib.hid (hno0 (fun h => by have := h.2.1; omega))
     have d1 : decide (xn < -1099511627776) = true := by simpa using hlo
     clear hno0 hpv
     go_wp2_with fail
     go_quiet ((first | (go_at_call 28; exact named_quiet _ _ _ hnm (by omega) HWn.out) | (go_at_call 45; exact number_quiet _ _ _ hid)))
     go_wp2
     go_ret
     exact ⟨ret_b Hno.out.symm, below_drewN hwa _⟩
    ·have d1 : decide (xn < -1099511627776) = false := by simpa using hlo
     by_cases hhi : 1099511627776 < xn
     ·have Hno := Lib.hid (hno0 (fun h => by have := h.2.2.1; omega))
      have d2 : decide (xn > 1099511627776) = true := by simpa using hhi
      clear hno0 hpv
      go_wp2_with fail
      go_quiet ((first | (go_at_call 28; exact named_quiet _ _ _ hnm (by omega) HWn.out) | (go_at_call 45; exact number_quiet _ _ _ hid)))
      go_wp2
      go_ret
      exact ⟨ret_b Hno.out.symm, below_drewN hwa _⟩
     ·have d2 : decide (xn > 1099511627776) = false := by simpa using hhi
      by_cases hk0 : 0 < k
      ·have hpvk := hpv (by omega)
       clear hpv
       obtain ⟨y, hye⟩ : ∃ y, y = t.items[k - 1].n := ⟨_, rfl⟩
       rw [← hye] at hpvk
       have e1 : IntKind.i64.wrap ((k : Int) - 1) = (k : Int) - 1 := IntWalk.i64_in _ (by omega)
       have e2 : ((k : Int) - 1).toNat = k - 1 := by omega
       have e3 : decide (0 < k) = true := by simp; omega
       by_cases hyx : y < xn
       ·have e4 : decide (y ≥ xn) = false := by simp; omega
        have hok : (∀ q (h : q < t.items.length), q < k → xname ≠ t.items[q].name) → EnumAt t k hlt := fun h => by
         unfold EnumAt; rw [← Hxe.out]; dsimp only; exact ⟨hnm, by omega, by omega, fun _ => by rw [← hye]; exact hyx, fun j hj => h j (by omega) hj⟩
        have hbad : ∀ q (h : q < t.items.length), q < k → xname = t.items[q].name → enumF t = false := fun q _ hqk h => hno0 fun hh => hh.2.2.2.2 q hqk h
        have Hye := Lib.hid hye
        clear hye
        have Hok := Lib.hid hok
        have Hbad := Lib.hid hbad
        clear hno0 hok hbad
        go_wp2_with fail
        go_quiet ((first | (go_at_call 28; exact named_quiet _ _ _ hnm (by omega) HWn.out) | (go_at_call 45; exact number_quiet _ _ _ hid)))
        have hwq := below_drewN hwa nq
        have hbq : Box ((wr.alloc (.cells #[.string xname, .int .i64 xn] 62)).drewN nq) w.heap.size 38 _ := hbt.drewN nq
        have hxq : Box ((wr.alloc (.cells #[.string xname, .int .i64 xn] 62)).drewN nq) wr.heap.size 62 [.string xname, .int .i64 xn] := (Box.new wr _ _).drewN nq
        clear hwa hbt q0 q1 d1 d2 e3 hnm hlo hhi b4 HWn
        have c4 : ((wr.alloc (.cells #[.string xname, .int .i64 xn] 62)).drewN nq).cell? ⟨w.heap.size, 4, none⟩ = some (.slice (some ⟨g, o, none⟩) t.items.length k3) := hbq.cell 4
        generalize hWq : (wr.alloc (.cells #[.string xname, .int .i64 xn] 62)).drewN nq = Wq at *
        clear hWq
        have hltq : w.heap.size < Wq.heap.size := hbq.lt
        have hltx : wr.heap.size < Wq.heap.size := hxq.lt
        generalize hX : wr.heap.size = X at *
        clear hX
        go_wp2_with fail
        go_loopw [50] (fun i wi => ∃ j : Nat, i = .int .i64 j ∧ j ≤ k ∧ Hid (∀ q (h : q < t.items.length), q < j → xname ≠ t.items[q].name) ∧ Below Wq.heap.size Wq wi) (fun i _ => k - (intOf i).toNat)
        case atStart => exact ⟨0, rfl, by omega, (fun q _ hq => absurd hq (by omega) : ∀ q (h : q < t.items.length), q < 0 → xname ≠ t.items[q].name), Below.refl _ _⟩
        case round =>
         obtain ⟨j, rfl, hj, hd, hbi⟩ := hrel
         have hwi := below_via hwq hbi hwq.size
         have hbi2 := hbq.below hbi hltq
         by_cases hjl : j < k
         ·have hjt : j < t.items.length := by omega
          have hcj := (HI.out.flat (enc := itemCells) hjt).keep (Keep.of_below hwi) hS
          obtain ⟨z, hz⟩ : ∃ z, z = t.items[j].name := ⟨_, rfl⟩
          obtain ⟨zn, hzn⟩ : ∃ z, z = t.items[j].n := ⟨_, rfl⟩
          have p0 : wr.cell? ⟨g, o + j * 2, none⟩ = some (.string z) := by rw [hz]; exact hcj.at_ 0 rfl
          have p1 : wr.cell? ⟨g, o + j * 2 + 1, none⟩ = some (.int .i64 zn) := by rw [hzn]; exact hcj.at_ 1 rfl
          have c0 : wr.cell? ⟨X, 0, none⟩ = some (.string xname) := (hxq.below hbi hltx).cell 0
          have hXl : X < wr.heap.size := (hxq.below hbi hltx).lt
          have hgl : g < wr.heap.size := by have := hbi.size; omega
          have Hz := Lib.hid hz
          clear hz hzn hcj c4
          have hwj := hwi.alloc hwi.size (.cells #[.string z, .int .i64 zn] 62)
          have hbj := hbi.alloc hbi.size (.cells #[.string z, .int .i64 zn] 62)
          by_cases hxz : xname = z
          ·have Hno := Lib.hid (Hbad.out j hjt hjl (hxz.trans Hz.out))
           subst hxz
           go_wp2_with fail
           go_ret
           exact ⟨ret_b Hno.out.symm, hwj⟩
          ·have hne : (xname.toList == z.toList) = false := by rw [ba_eq]; simpa using hxz
           go_wp2_with fail
           go_roundw
           case rel =>
            refine ⟨j + 1, by go_num, by omega, ?_, hbj⟩
            show ∀ q (h : q < t.items.length), q < j + 1 → xname ≠ t.items[q].name
            intro q hq hqj
            by_cases hqj' : q < j
            ·exact hd.out q hq hqj'
            ·have : q = j := by omega
             subst this
             rw [← Hz.out]; exact hxz
           case measure => simp [intOf]; omega
         ·have hnew : ∀ j (h : j < t.items.length), j < k + 1 → EnumAt t j h := by
           intro q hq hqk
           by_cases hqk' : q < k
           ·exact he.out q hq hqk'
           ·have : q = k := by omega
            subst this
            exact Hok.out fun q' hq' hqq => hd.out q' hq' (by omega)
          have Hnew := Lib.hid hnew
          clear hnew c4
          go_wp2_with fail
          go_roundw
          case rel => exact ⟨k + 1, by go_num, by omega, Hnew, hbi2, hwi⟩
          case measure => simp [intOf]; omega
       ·have Hno := Lib.hid (hno0 (fun h => by have := h.2.2.2.1 (by omega); omega))
        have Hye := Lib.hid hye
        clear hno0 hye
        have e4 : decide (y ≥ xn) = true := by simp; omega
        go_wp2_with fail
        go_quiet ((first | (go_at_call 28; exact named_quiet _ _ _ hnm (by omega) HWn.out) | (go_at_call 45; exact number_quiet _ _ _ hid)))
        go_wp2
        go_ret
        exact ⟨ret_b Hno.out.symm, below_drewN hwa _⟩
      ·have e3 : decide (0 < k) = false := by simp; omega
       have hok : (∀ q (h : q < t.items.length), q < k → xname ≠ t.items[q].name) → EnumAt t k hlt := fun h => by
        unfold EnumAt; rw [← Hxe.out]; dsimp only; exact ⟨hnm, by omega, by omega, fun h => absurd h hk0, fun j hj => h j (by omega) hj⟩
       have hbad : ∀ q (h : q < t.items.length), q < k → xname = t.items[q].name → enumF t = false := fun q _ hqk h => hno0 fun hh => hh.2.2.2.2 q hqk h
       clear hpv hk0
       have Hok := Lib.hid hok
       have Hbad := Lib.hid hbad
       clear hno0 hok hbad
       go_wp2_with fail
       go_quiet ((first | (go_at_call 28; exact named_quiet _ _ _ hnm (by omega) HWn.out) | (go_at_call 45; exact number_quiet _ _ _ hid)))
       have hwq := below_drewN hwa nq
       have hbq : Box ((wr.alloc (.cells #[.string xname, .int .i64 xn] 62)).drewN nq) w.heap.size 38 _ := hbt.drewN nq
       have hxq : Box ((wr.alloc (.cells #[.string xname, .int .i64 xn] 62)).drewN nq) wr.heap.size 62 [.string xname, .int .i64 xn] := (Box.new wr _ _).drewN nq
       clear hwa hbt q0 q1 d1 d2 e3 hnm hlo hhi b4 HWn
       have c4 : ((wr.alloc (.cells #[.string xname, .int .i64 xn] 62)).drewN nq).cell? ⟨w.heap.size, 4, none⟩ = some (.slice (some ⟨g, o, none⟩) t.items.length k3) := hbq.cell 4
       generalize hWq : (wr.alloc (.cells #[.string xname, .int .i64 xn] 62)).drewN nq = Wq at *
       clear hWq
       have hltq : w.heap.size < Wq.heap.size := hbq.lt
       have hltx : wr.heap.size < Wq.heap.size := hxq.lt
       generalize hX : wr.heap.size = X at *
       clear hX
       go_wp2_with fail
       go_loopw [50] (fun i wi => ∃ j : Nat, i = .int .i64 j ∧ j ≤ k ∧ Hid (∀ q (h : q < t.items.length), q < j → xname ≠ t.items[q].name) ∧ Below Wq.heap.size Wq wi) (fun i _ => k - (intOf i).toNat)
       case atStart => exact ⟨0, rfl, by omega, (fun q _ hq => absurd hq (by omega) : ∀ q (h : q < t.items.length), q < 0 → xname ≠ t.items[q].name), Below.refl _ _⟩
       case round =>
        obtain ⟨j, rfl, hj, hd, hbi⟩ := hrel
        have hwi := below_via hwq hbi hwq.size
        have hbi2 := hbq.below hbi hltq
        by_cases hjl : j < k
        ·have hjt : j < t.items.length := by omega
         have hcj := (HI.out.flat (enc := itemCells) hjt).keep (Keep.of_below hwi) hS
         obtain ⟨z, hz⟩ : ∃ z, z = t.items[j].name := ⟨_, rfl⟩
         obtain ⟨zn, hzn⟩ : ∃ z, z = t.items[j].n := ⟨_, rfl⟩
         have p0 : wr.cell? ⟨g, o + j * 2, none⟩ = some (.string z) := by rw [hz]; exact hcj.at_ 0 rfl
         have p1 : wr.cell? ⟨g, o + j * 2 + 1, none⟩ = some (.int .i64 zn) := by rw [hzn]; exact hcj.at_ 1 rfl
         have c0 : wr.cell? ⟨X, 0, none⟩ = some (.string xname) := (hxq.below hbi hltx).cell 0
         have hXl : X < wr.heap.size := (hxq.below hbi hltx).lt
         have hgl : g < wr.heap.size := by have := hbi.size; omega
         have Hz := Lib.hid hz
         clear hz hzn hcj c4
         have hwj := hwi.alloc hwi.size (.cells #[.string z, .int .i64 zn] 62)
         have hbj := hbi.alloc hbi.size (.cells #[.string z, .int .i64 zn] 62)
         by_cases hxz : xname = z
         ·have Hno := Lib.hid (Hbad.out j hjt hjl (hxz.trans Hz.out))
          subst hxz
          go_wp2_with fail
          go_ret
          exact ⟨ret_b Hno.out.symm, hwj⟩
         ·have hne : (xname.toList == z.toList) = false := by rw [ba_eq]; simpa using hxz
          go_wp2_with fail
          go_roundw
          case rel =>
           refine ⟨j + 1, by go_num, by omega, ?_, hbj⟩
           show ∀ q (h : q < t.items.length), q < j + 1 → xname ≠ t.items[q].name
           intro q hq hqj
           by_cases hqj' : q < j
           ·exact hd.out q hq hqj'
           ·have : q = j := by omega
            subst this
            rw [← Hz.out]; exact hxz
          case measure => simp [intOf]; omega
        ·have hnew : ∀ j (h : j < t.items.length), j < k + 1 → EnumAt t j h := by
          intro q hq hqk
          by_cases hqk' : q < k
          ·exact he.out q hq hqk'
          ·have : q = k := by omega
           subst this
           exact Hok.out fun q' hq' hqq => hd.out q' hq' (by omega)
         have Hnew := Lib.hid hnew
         clear hnew c4
         go_wp2_with fail
         go_roundw
         case rel => exact ⟨k + 1, by go_num, by omega, Hnew, hbi2, hwi⟩
         case measure => simp [intOf]; omega
   ·have Hno := Lib.hid (hno0 (fun h => hnm h.1))
    simp only [Bool.not_eq_true] at hnm
    clear hno0 hpv
    go_wp2_with fail
    go_quiet ((first | (go_at_call 28; exact named_quiet _ _ _ hnm (by omega) HWn.out) | (go_at_call 45; exact number_quiet _ _ _ hid)))
    go_wp2
    go_ret
    exact ⟨ret_b Hno.out.symm, below_drewN hwa _⟩
  ·have hend := enum_end (t := t) (fun j h => he.out j h (by omega))
   have Hend := Lib.hid hend
   have b2 : wr.cell? ⟨w.heap.size, 2, none⟩ = some (.slice A1 t.fields.length k1) := hbx.cell 2
   have b3 : wr.cell? ⟨w.heap.size, 3, none⟩ = some (.slice A2 t.gone.length k2) := hbx.cell 3
   clear he hend hbx
   go_wp2_with fail
   all_goals
    go_ret
    refine ⟨ret_b ?_, hb⟩
    rw [Hend.out]
    first | (simp; done) | (simp; omega) | (rw [Bool.eq_iff_iff]; simp [*]; done) | (rw [Bool.eq_iff_iff]; have : t.fields.length = 0 := (by simp [*]); simp only [beq_iff_eq, decide_eq_true_eq]; omega)
end Go.Proofs.YtihdnjnhhhafkaaGreatDoor
