/- The walks of book.Least, book.Means. -/
import Derived.Test.YtkdmcplomfcoeaaDoorBookLeast
namespace Go.Proofs.YtkdmcplomfcoeaaDoor
open Go.RowKit

set_option maxRecDepth 100000 in
theorem leastOf4_any (S : Nat → Prop) (vb : Value) (b : BookD) (name : ByteArray) (w : World) (hb : RSl 5 96 RType S w [vb] b) :
    Calls Tryd.prog 16 #[.agg #[vb], .string name] w (Ret w (.int .i64 (leastF b 4 name))) := by
  obtain ⟨A, cap, rfl, _, _⟩ := hb.form
  have hbk := (RSl.fair RType.fair).below hb ((Below.refl w.heap.size w).alloc (Nat.le_refl _) (.cells #[.slice A b.length cap] 24))
  have Hbk := Lib.hid hbk
  clear hb hbk
  go_enter Tryd.func16, Tryd.ntmps16
  go_wp2_with fail
  refine (least_any S _ b 4 (by omega) name _ Hbk.out).mono ?_
  rintro e w1 ⟨rfl, hb1⟩
  have hbw : Below w.heap.size w w1 := below_via ((Below.refl w.heap.size w).alloc (Nat.le_refl _) _) hb1 (by simp)
  go_wp2_with fail
  go_ret
  exact ⟨rfl, hbw⟩

set_option maxRecDepth 100000 in
theorem meansOne_any (x : ByteArray) (xn n : Int) (q : Nat) (w : World) (hq : w.cell? ⟨q, 0, none⟩ = some (.int .i64 n)) :
    Calls Tryd.prog 72 #[.agg #[.string x, .int .i64 xn], .pointer (some ⟨q, 0, none⟩)] w (Ret w (.bool (decide (xn = n)))) := by
  have hqlt : q < w.heap.size := World.block_lt_of_cell? w _ hq
  go_enter Tryd.func72, Tryd.ntmps72
  go_wp2_with fail
  all_goals
    go_ret
    refine ⟨ret_b ?_, (Below.refl _ _).alloc (Nat.le_refl _) _⟩
    first | rfl | simp | (simp; omega)

/-- A number that tells by its sign. -/
def SignPost (b : Bool) (w : World) (e : Ending) (w' : World) : Prop := ∃ i : Int, e = .returned (.int .i64 i) ∧ Hid (decide (0 ≤ i) = b) ∧ Below w.heap.size w w'

set_option maxRecDepth 100000 in
set_option maxHeartbeats 1000000 in
theorem meansIdx_any (S : Nat → Prop) (v : Value) (l : List ItemD) (n : Int) (q : Nat) (w : World) (hl : RSl 2 24 RItem S w [v] l) (hq : w.cell? ⟨q, 0, none⟩ = some (.int .i64 n)) :
    Calls Tryd.prog 87 #[v, .func (.func 72) #[] #[.pointer (some ⟨q, 0, none⟩)]] w (SignPost (l.any fun x => decide (x.n = n)) w) := by
  obtain ⟨A, cap, rfl, hlc, hlb⟩ := hl.form
  have HL := Lib.hid hl
  have hqw := World.block_lt_of_cell? w _ hq
  clear hl
  go_enter Tryd.func87, Tryd.ntmps87
  go_wp2_with fail
  go_loopw [8] (fun i wr => ∃ k : Nat, i = .int .i64 k ∧ k ≤ l.length ∧ Hid ((l.drop k).any (fun x => decide (x.n = n)) = l.any (fun x => decide (x.n = n))) ∧ Below w.heap.size w wr) (fun i _ => l.length - (intOf i).toNat)
  case atStart => exact ⟨0, rfl, by omega, rfl, Below.refl _ _⟩
  case round =>
    obtain ⟨k, rfl, hk, he, hb⟩ := hrel
    by_cases hlt : k < l.length
    · obtain ⟨g, o, es, rfl, hS, hg, hes, hr, hc0⟩ := HL.out.at_ hlt
      have hc := hc0.keep (Keep.of_below hb) hS
      have hd : l.drop k = l[k] :: l.drop (k + 1) := List.drop_eq_getElem_cons hlt
      obtain ⟨x, hye⟩ : ∃ y, y = l[k] := ⟨_, rfl⟩
      rw [← hye] at hr hd
      rw [hd, List.any_cons] at he
      have hr' : es = itemCells x := hr
      subst hr'
      obtain ⟨xname, xn⟩ := x
      have q0 : wr.cell? ⟨g, o + k * 2, none⟩ = some (.string xname) := hc.at_ 0 rfl
      have q1 : wr.cell? ⟨g, o + k * 2 + 1, none⟩ = some (.int .i64 xn) := hc.at_ 1 rfl
      have hqr : wr.cell? ⟨q, 0, none⟩ = some (.int .i64 n) := by rw [World.cell?_of_block (w := w) (hb.block _ hqw)]; exact hq
      clear hr hc hc0 hye hes hd
      have hqlt : q < wr.heap.size := Nat.lt_of_lt_of_le hqw hb.size
      dsimp only at he
      by_cases hn : xn = n
      · subst hn
        simp only [decide_true, Bool.true_or] at he
        have He := Lib.hid he.out
        clear he
        go_wp2_with fail
        refine (meansOne_any _ _ _ q _ hqr).mono ?_
        rintro e w1 ⟨rfl, hb1⟩
        simp only [decide_true]
        go_wp2_with fail
        go_ret
        exact ⟨_, rfl, by show _ = _; rw [← He.out]; simp, below_via hb hb1 hb.size⟩
      · simp only [hn, decide_false, Bool.false_or] at he
        go_wp2_with fail
        refine (meansOne_any _ _ _ q _ hqr).mono ?_
        rintro e w1 ⟨rfl, hb1⟩
        simp only [hn, decide_false]
        go_wp2_with fail
        go_roundw
        case rel => exact ⟨k + 1, by go_num, by omega, he, below_via hb hb1 hb.size⟩
        case measure => simp [intOf]; omega
    · have hd : l.drop k = [] := List.drop_eq_nil_of_le (by omega)
      rw [hd, List.any_nil] at he
      go_wp2_with fail
      go_ret
      exact ⟨_, rfl, he, hb⟩

set_option maxRecDepth 100000 in
theorem meansHas_any (S : Nat → Prop) (v : Value) (l : List ItemD) (n : Int) (q : Nat) (w : World) (hl : RSl 2 24 RItem S w [v] l) (hq : w.cell? ⟨q, 0, none⟩ = some (.int .i64 n)) :
    Calls Tryd.prog 71 #[v, .func (.func 72) #[] #[.pointer (some ⟨q, 0, none⟩)]] w (Ret w (.bool (l.any fun x => decide (x.n = n)))) := by
  have HL := Lib.hid hl
  have HQ := Lib.hid hq
  clear hl hq
  go_enter Tryd.func71, Tryd.ntmps71
  go_wp2_with fail
  refine (meansIdx_any S v l n q _ HL.out HQ.out).mono ?_
  rintro e w1 ⟨i, rfl, hi, hb1⟩
  go_wp2_with fail
  go_ret
  exact ⟨ret_b (by first | exact hi.out | (rw [← hi.out]; simp)), hb1⟩

set_option maxRecDepth 100000 in
theorem means_any (S : Nat → Prop) (cs : List Value) (t : TypeD) (n : Int) (w : World) (ht : RType S w cs t) :
    Calls Tryd.prog 62 #[.agg cs.toArray, .int .i64 n] w (Ret w (.bool (meansF t n))) := by
  obtain ⟨A1, k1, A2, k2, A3, k3, rfl, -, -, hi⟩ := ht.parts
  have HI := Lib.hid hi
  clear ht hi
  go_enter Tryd.func62, Tryd.ntmps62
  go_wp2_with fail
  have hw2 : Below w.heap.size w ((w.alloc (.cells #[.string t.name, .bool t.enum, .slice A1 t.fields.length k1, .slice A2 t.gone.length k2, .slice A3 t.items.length k3] 61)).alloc (.cells #[.int .i64 n] 3)) := ((Below.refl _ _).alloc (Nat.le_refl _) _).alloc (by simp) _
  have hbx : Box ((w.alloc (.cells #[.string t.name, .bool t.enum, .slice A1 t.fields.length k1, .slice A2 t.gone.length k2, .slice A3 t.items.length k3] 61)).alloc (.cells #[.int .i64 n] 3)) (w.heap.size + 1) 3 [.int .i64 n] := by
    have := Box.new (w.alloc (.cells #[.string t.name, .bool t.enum, .slice A1 t.fields.length k1, .slice A2 t.gone.length k2, .slice A3 t.items.length k3] 61)) 3 [.int .i64 n]
    simpa using this
  refine (meansHas_any S _ t.items n (w.heap.size + 1) _ ((RSl.fair RItem.fair).below HI.out hw2) (hbx.cell 0)).mono ?_
  rintro e w1 ⟨rfl, hb1⟩
  have hbw := below_via hw2 hb1 hw2.size
  clear hw2 hbx hb1
  go_wp2_with fail
  go_ret
  exact ⟨rfl, hbw⟩
end Go.Proofs.YtkdmcplomfcoeaaDoor
