/- The walks of package book: Find, FieldOf, number. -/
import Derived.Test.YtaadnlopifaagaaDoorProg
import Derived.Test.YtaadnlopifaagaaDoorBookPlain
import Derived.Test.YtaadnlopifaagaaDoorRepMore
namespace Go.Proofs.YtaadnlopifaagaaDoor
open Go.RowKit

/-- A type, and whether it was found. -/
def FindPost (S : Nat → Prop) (w : World) (r : Option TypeD) (e : Ending) (w' : World) : Prop :=
  ∃ cs, e = .returned (.tuple #[.agg cs.toArray, .bool r.isSome]) ∧ RType S w cs (r.getD .zero) ∧ Below w.heap.size w w'

theorem find_results {W : World} {a : Act} {g : Nat} {n : ByteArray} {en fd : Bool} {v1 v2 v3 : Value} (hb : Box W g 51 [.string n, .bool en, v1, v2, v3]) (h4 : a.tmps.getD 4 undef = .pointer (some ⟨g, 0, none⟩)) (h5 : a.tmps.getD 5 undef = .bool fd) :
    (results Tryd.f21 a.tmps).run Tryd.prog W = .ok (.tuple #[.agg #[.string n, .bool en, v1, v2, v3], .bool fd]) W := by
  have c0 := hb.cell 0
  have c1 := hb.cell 1
  have c2 := hb.cell 2
  have c3 := hb.cell 3
  have c4 := hb.cell 4
  simp only [List.getElem?_cons_zero, List.getElem?_cons_succ] at c0 c1 c2 c3 c4
  simp only [Array.getD_eq_getD_getElem?] at h4 h5
  simp [results, Tryd.results21, go_sem, h4, h5, c0, c1, c2, c3, c4]
theorem find_end {S : Nat → Prop} {w W : World} {a : Act} {g : Nat} {r : Option TypeD} {fd : Bool} {n : ByteArray} {en : Bool} {v1 v2 v3 : Value} (hr : RType S w [.string n, .bool en, v1, v2, v3] (r.getD .zero)) (hfd : r.isSome = fd)
    (hb : Box W g 51 [.string n, .bool en, v1, v2, v3]) (hw : Below w.heap.size w W) (h4 : a.tmps.getD 4 undef = .pointer (some ⟨g, 0, none⟩)) (h5 : a.tmps.getD 5 undef = .bool fd) (hd : a.defers = []) :
    bodyPost Tryd.prog Tryd.f21 (FindPost S w r) .ret a W :=
  bodyPost_ret (find_results hb h4 h5) hd ⟨_, by rw [hfd], hr, hw⟩

set_option maxRecDepth 100000 in
set_option maxHeartbeats 1000000 in
theorem find_any (S : Nat → Prop) (vb : Value) (b : BookD) (name : ByteArray) (w : World) (hb : RSl 5 96 RType S w [vb] b) :
    Calls Tryd.prog 21 #[.agg #[vb], .string name] w (FindPost S w (findT b name)) := by
  obtain ⟨A, cap, rfl, hlc, hlb⟩ := hb.form
  have HB := Lib.hid hb
  clear hb
  go_enter Tryd.func21, Tryd.ntmps21
  go_wp2_with fail
  go_loopw [11] (fun i wr => ∃ k : Nat, i = .int .i64 k ∧ k ≤ b.length ∧ Box wr (w.heap.size + 1) 51 [.string ⟨#[]⟩, .bool false, .slice none 0 0, .slice none 0 0, .slice none 0 0] ∧
      Hid (findT (b.drop k) name = findT b name) ∧ Below w.heap.size w wr) (fun i _ => b.length - (intOf i).toNat)
  case atStart =>
    refine ⟨0, rfl, by omega, ?_, rfl, ((Below.refl _ _).alloc (Nat.le_refl _) _).alloc (by simp) _⟩
    have := Box.new (w.alloc (.cells #[.slice A b.length cap] 24)) 51 [.string ⟨#[]⟩, .bool false, .slice none 0 0, .slice none 0 0, .slice none 0 0]
    simpa using this
  case round =>
    obtain ⟨k, rfl, hk, hbx, he, hb⟩ := hrel
    by_cases hlt : k < b.length
    · obtain ⟨g, o, es, rfl, hS, hg, hes, hr, hc0⟩ := HB.out.at_ hlt
      have hc := hc0.keep (Keep.of_below hb) hS
      have hgw : g < wr.heap.size := Nat.lt_of_lt_of_le hg hb.size
      have hd : b.drop k = b[k] :: b.drop (k + 1) := List.drop_eq_getElem_cons hlt
      obtain ⟨t, hte⟩ : ∃ t, t = b[k] := ⟨_, rfl⟩
      rw [← hte] at hr hd
      rw [hd] at he
      obtain ⟨A1, k1, A2, k2, A3, k3, rfl, -, -, -⟩ := hr.parts
      have q0 : wr.cell? ⟨g, o + k * 5, none⟩ = some (.string t.name) := hc.at_ 0 rfl
      have q1 : wr.cell? ⟨g, o + k * 5 + 1, none⟩ = some (.bool t.enum) := hc.at_ 1 rfl
      have q2 : wr.cell? ⟨g, o + k * 5 + 2, none⟩ = some (.slice A1 t.fields.length k1) := hc.at_ 2 rfl
      have q3 : wr.cell? ⟨g, o + k * 5 + 3, none⟩ = some (.slice A2 t.gone.length k2) := hc.at_ 3 rfl
      have q4 : wr.cell? ⟨g, o + k * 5 + 4, none⟩ = some (.slice A3 t.items.length k3) := hc.at_ 4 rfl
      have HR := Lib.hid hr
      clear hr hc hc0 hd hte hes
      have hbn := hbx.alloc (.cells #[.string t.name, .bool t.enum, .slice A1 t.fields.length k1, .slice A2 t.gone.length k2, .slice A3 t.items.length k3] 51)
      by_cases hn : t.name = name
      · subst hn
        have hft : findT b t.name = some t := by rw [← he.out]; simp [findT]
        have Hft := Lib.hid hft
        clear hft
        have f0 := hbn.frozen 0
        have f1 := hbn.frozen 1
        have f2 := hbn.frozen 2
        have f3 := hbn.frozen 3
        have f4 := hbn.frozen 4
        have c0 := hbn.cell 0
        have c1 := hbn.cell 1
        have c2 := hbn.cell 2
        have c3 := hbn.cell 3
        have c4 := hbn.cell 4
        simp only [List.getElem?_cons_zero, List.getElem?_cons_succ] at c0 c1 c2 c3 c4
        go_wp2_with fail
        change bodyPost _ _ _ _ _ (setCells (wr.alloc (.cells #[.string t.name, .bool t.enum, .slice A1 t.fields.length k1, .slice A2 t.gone.length k2, .slice A3 t.items.length k3] 51)) (w.heap.size + 1) 0 [.string t.name, .bool t.enum, .slice A1 t.fields.length k1, .slice A2 t.gone.length k2, .slice A3 t.items.length k3])
        have hb5 := hbn.setCells [.string t.name, .bool t.enum, .slice A1 t.fields.length k1, .slice A2 t.gone.length k2, .slice A3 t.items.length k3] rfl
        have hw5 := below_setCells (g := w.heap.size + 1) (Nat.le_succ _) [.string t.name, .bool t.enum, .slice A1 t.fields.length k1, .slice A2 t.gone.length k2, .slice A3 t.items.length k3] 0 _ (hb.alloc hb.size (.cells #[.string t.name, .bool t.enum, .slice A1 t.fields.length k1, .slice A2 t.gone.length k2, .slice A3 t.items.length k3] 51))
        generalize setCells _ (w.heap.size + 1) 0 _ = W at hb5 hw5 ⊢
        clear hbn hbx f0 f1 f2 f3 f4 c0 c1 c2 c3 c4 hb
        rw [Hft.out]
        exact find_end HR.out rfl hb5 hw5 rfl rfl rfl
      · have hne : (t.name.toList == name.toList) = false := by rw [ba_eq]; simpa using hn
        go_wp2_with fail
        go_roundw
        case rel =>
          refine ⟨k + 1, by go_num, by omega, hbn, ?_, hb.alloc hb.size _⟩
          show _ = _
          rw [← he.out]
          simp [findT, hn]
        case measure => simp [intOf]; omega
    · have hd : b.drop k = [] := List.drop_eq_nil_of_le (by omega)
      rw [hd] at he
      have f0 := hbx.frozen 0
      have f1 := hbx.frozen 1
      have f2 := hbx.frozen 2
      have f3 := hbx.frozen 3
      have f4 := hbx.frozen 4
      have c0 := hbx.cell 0
      have c1 := hbx.cell 1
      have c2 := hbx.cell 2
      have c3 := hbx.cell 3
      have c4 := hbx.cell 4
      simp only [List.getElem?_cons_zero, List.getElem?_cons_succ] at c0 c1 c2 c3 c4
      have Hft := Lib.hid he.out.symm
      clear he hd
      go_wp2_with fail
      change bodyPost _ _ _ _ _ (setCells wr (w.heap.size + 1) 0 [.string ⟨#[]⟩, .bool false, .slice none 0 0, .slice none 0 0, .slice none 0 0])
      have hb5 := hbx.setCells [.string ⟨#[]⟩, .bool false, .slice none 0 0, .slice none 0 0, .slice none 0 0] rfl
      have hw5 := below_setCells (g := w.heap.size + 1) (Nat.le_succ _) [.string ⟨#[]⟩, .bool false, .slice none 0 0, .slice none 0 0, .slice none 0 0] 0 _ hb
      generalize setCells _ (w.heap.size + 1) 0 _ = W at hb5 hw5 ⊢
      rw [Hft.out]
      exact find_end (r := none) RType.zero rfl hb5 hw5 rfl rfl rfl

/-- A field, and whether it was found. -/
def FieldPost (w : World) (r : Option FieldD) (e : Ending) (w' : World) : Prop :=
  e = .returned (.tuple #[.agg (fieldCells (r.getD .zero)).toArray, .bool r.isSome]) ∧ Below w.heap.size w w'
theorem fieldOf_results {W : World} {a : Act} {g : Nat} {f : FieldD} {fd : Bool} (hb : Box W g 36 (fieldCells f)) (h4 : a.tmps.getD 4 undef = .pointer (some ⟨g, 0, none⟩)) (h5 : a.tmps.getD 5 undef = .bool fd) :
    (results Tryd.f22 a.tmps).run Tryd.prog W = .ok (.tuple #[.agg (fieldCells f).toArray, .bool fd]) W := by
  have c0 := hb.cell 0
  have c1 := hb.cell 1
  have c2 := hb.cell 2
  have c3 := hb.cell 3
  have c4 := hb.cell 4
  simp only [fieldCells, List.getElem?_cons_zero, List.getElem?_cons_succ] at c0 c1 c2 c3 c4
  simp only [Array.getD_eq_getD_getElem?] at h4 h5
  simp [results, Tryd.results22, go_sem, h4, h5, c0, c1, c2, c3, c4, fieldCells]
theorem fieldOf_end {w W : World} {a : Act} {g : Nat} {r : Option FieldD} {fd : Bool} (hfd : r.isSome = fd)
    (hb : Box W g 36 (fieldCells (r.getD .zero))) (hw : Below w.heap.size w W) (h4 : a.tmps.getD 4 undef = .pointer (some ⟨g, 0, none⟩)) (h5 : a.tmps.getD 5 undef = .bool fd) (hd : a.defers = []) :
    bodyPost Tryd.prog Tryd.f22 (FieldPost w r) .ret a W :=
  bodyPost_ret (fieldOf_results hb h4 h5) hd ⟨by rw [hfd], hw⟩

set_option maxRecDepth 100000 in
set_option maxHeartbeats 1000000 in
theorem fieldOf_any (S : Nat → Prop) (cs : List Value) (t : TypeD) (id : Int) (w : World) (ht : RType S w cs t) :
    Calls Tryd.prog 22 #[.agg cs.toArray, .int .i64 id] w (FieldPost w (fieldOf t id)) := by
  obtain ⟨A1, k1, A2, k2, A3, k3, rfl, hf, -, -⟩ := ht.parts
  obtain ⟨A', cap', h', hlc, hlb⟩ := hf.form
  have HB := Lib.hid hf
  clear hf h' ht
  go_enter Tryd.func22, Tryd.ntmps22
  go_wp2_with fail
  go_loopw [11] (fun i wr => ∃ k : Nat, i = .int .i64 k ∧ k ≤ t.fields.length ∧ Box wr (w.heap.size + 1) 36 [.int .i64 0, .string ⟨#[]⟩, .string ⟨#[]⟩, .int .i64 0, .int .i64 0] ∧
      Hid ((t.fields.drop k).find? (fun f => decide (f.id = id)) = fieldOf t id) ∧ Below w.heap.size w wr) (fun i _ => t.fields.length - (intOf i).toNat)
  case atStart =>
    refine ⟨0, rfl, by omega, ?_, rfl, ((Below.refl _ _).alloc (Nat.le_refl _) _).alloc (by simp) _⟩
    have := Box.new (w.alloc (.cells #[.string t.name, .bool t.enum, .slice A1 t.fields.length k1, .slice A2 t.gone.length k2, .slice A3 t.items.length k3] 51)) 36 [.int .i64 0, .string ⟨#[]⟩, .string ⟨#[]⟩, .int .i64 0, .int .i64 0]
    simpa using this
  case round =>
    obtain ⟨k, rfl, hk, hbx, he, hb⟩ := hrel
    by_cases hlt : k < t.fields.length
    · obtain ⟨g, o, es, rfl, hS, hg, hes, hr, hc0⟩ := HB.out.at_ hlt
      have hc := hc0.keep (Keep.of_below hb) hS
      have hgw : g < wr.heap.size := Nat.lt_of_lt_of_le hg hb.size
      have hd : t.fields.drop k = t.fields[k] :: t.fields.drop (k + 1) := List.drop_eq_getElem_cons hlt
      obtain ⟨f, hte⟩ : ∃ f, f = t.fields[k] := ⟨_, rfl⟩
      rw [← hte] at hr hd
      rw [hd] at he
      have hr' : es = fieldCells f := hr
      subst hr'
      have q0 : wr.cell? ⟨g, o + k * 5, none⟩ = some (.int .i64 f.id) := hc.at_ 0 rfl
      have q1 : wr.cell? ⟨g, o + k * 5 + 1, none⟩ = some (.string f.name) := hc.at_ 1 rfl
      have q2 : wr.cell? ⟨g, o + k * 5 + 2, none⟩ = some (.string f.type) := hc.at_ 2 rfl
      have q3 : wr.cell? ⟨g, o + k * 5 + 3, none⟩ = some (.int .i64 f.kind) := hc.at_ 3 rfl
      have q4 : wr.cell? ⟨g, o + k * 5 + 4, none⟩ = some (.int .i64 f.rule) := hc.at_ 4 rfl
      clear hr hc hc0 hd hte hes
      have hbn := hbx.alloc (.cells #[.int .i64 f.id, .string f.name, .string f.type, .int .i64 f.kind, .int .i64 f.rule] 36)
      by_cases hn : f.id = id
      · subst hn
        have hft : fieldOf t f.id = some f := by rw [← he.out]; simp
        have Hft := Lib.hid hft
        clear hft
        have f0 := hbn.frozen 0
        have f1 := hbn.frozen 1
        have f2 := hbn.frozen 2
        have f3 := hbn.frozen 3
        have f4 := hbn.frozen 4
        have c0 := hbn.cell 0
        have c1 := hbn.cell 1
        have c2 := hbn.cell 2
        have c3 := hbn.cell 3
        have c4 := hbn.cell 4
        simp only [List.getElem?_cons_zero, List.getElem?_cons_succ] at c0 c1 c2 c3 c4
        go_wp2_with fail
        change bodyPost _ _ _ _ _ (setCells (wr.alloc (.cells #[.int .i64 f.id, .string f.name, .string f.type, .int .i64 f.kind, .int .i64 f.rule] 36)) (w.heap.size + 1) 0 [.int .i64 f.id, .string f.name, .string f.type, .int .i64 f.kind, .int .i64 f.rule])
        have hb5 := hbn.setCells [.int .i64 f.id, .string f.name, .string f.type, .int .i64 f.kind, .int .i64 f.rule] rfl
        have hw5 := below_setCells (g := w.heap.size + 1) (Nat.le_succ _) [.int .i64 f.id, .string f.name, .string f.type, .int .i64 f.kind, .int .i64 f.rule] 0 _ (hb.alloc hb.size (.cells #[.int .i64 f.id, .string f.name, .string f.type, .int .i64 f.kind, .int .i64 f.rule] 36))
        generalize setCells _ (w.heap.size + 1) 0 _ = W at hb5 hw5 ⊢
        rw [Hft.out]
        exact fieldOf_end (r := some f) rfl hb5 hw5 rfl rfl rfl
      · go_wp2_with fail
        go_roundw
        case rel =>
          refine ⟨k + 1, by go_num, by omega, hbn, ?_, hb.alloc hb.size _⟩
          show _ = _
          rw [← he.out]
          simp [hn]
        case measure => simp [intOf]; omega
    · have hd : t.fields.drop k = [] := List.drop_eq_nil_of_le (by omega)
      rw [hd] at he
      have f0 := hbx.frozen 0
      have f1 := hbx.frozen 1
      have f2 := hbx.frozen 2
      have f3 := hbx.frozen 3
      have f4 := hbx.frozen 4
      have c0 := hbx.cell 0
      have c1 := hbx.cell 1
      have c2 := hbx.cell 2
      have c3 := hbx.cell 3
      have c4 := hbx.cell 4
      simp only [List.getElem?_cons_zero, List.getElem?_cons_succ] at c0 c1 c2 c3 c4
      have Hft := Lib.hid he.out.symm
      clear he hd
      go_wp2_with fail
      change bodyPost _ _ _ _ _ (setCells wr (w.heap.size + 1) 0 [.int .i64 0, .string ⟨#[]⟩, .string ⟨#[]⟩, .int .i64 0, .int .i64 0])
      have hb5 := hbx.setCells [.int .i64 0, .string ⟨#[]⟩, .string ⟨#[]⟩, .int .i64 0, .int .i64 0] rfl
      have hw5 := below_setCells (g := w.heap.size + 1) (Nat.le_succ _) [.int .i64 0, .string ⟨#[]⟩, .string ⟨#[]⟩, .int .i64 0, .int .i64 0] 0 _ hb
      generalize setCells _ (w.heap.size + 1) 0 _ = W at hb5 hw5 ⊢
      rw [Hft.out]
      exact fieldOf_end (r := none) rfl hb5 hw5 rfl rfl rfl

theorem number_any (n : Int) (w : World) : Calls Tryd.prog 35 #[.int .i64 n] w (Ret w (.bool (decide (1 ≤ n ∧ n ≤ 30)))) := by
  go_enter Tryd.func35, Tryd.ntmps35
  go_wp2
  all_goals
    go_ret
    refine ⟨ret_b ?_, Below.refl _ _⟩
    go_tidy
    simp at *
    omega
end Go.Proofs.YtaadnlopifaagaaDoor
