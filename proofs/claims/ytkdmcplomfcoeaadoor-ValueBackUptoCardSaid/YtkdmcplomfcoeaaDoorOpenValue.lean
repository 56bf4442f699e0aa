/- Values that come in, of a bulk that is known. -/
import Derived.Test.YtkdmcplomfcoeaaDoorOpenBook
import Derived.Test.YtkdmcplomfcoeaaDoorOpenMore
import Derived.Test.YtkdmcplomfcoeaaDoorValueRep
namespace Go.Proofs.YtkdmcplomfcoeaaDoor
open Go.RowKit Go.ChangeShapes Go.WideShapes Go.ChangeAt

theorem bulk_mem {H : Type} {d : DataW H} : ∀ {l : List (DataW H)}, d ∈ l → Rows.uptoBulk d ≤ Rows.uptoBulkAll l
  | [], h => by cases h
  | x :: r, h => by
    rw [Rows.uptoBulkAll]
    rcases List.mem_cons.1 h with rfl | h
    · omega
    · have := bulk_mem h; omega
/-- Counts and depths of values, by the bulk of what they come of. -/
theorem bulk_all {H : Type} : ∀ (elems : List (DataW H)) (l : List ValueD), elems.length = l.length → (∀ i (h : i < elems.length) (h' : i < l.length), okV l[i] ∧ depthV l[i] ≤ Rows.uptoBulk elems[i] ∧ countV l[i] ≤ Rows.uptoBulk elems[i]) →
    okL l ∧ depthL l ≤ Rows.uptoBulkAll elems ∧ countL l ≤ Rows.uptoBulkAll elems
  | [], [], _, _ => ⟨trivial, by simp [depthL], by simp [countL]⟩
  | [], x :: l, h, _ => by simp at h
  | e :: es, [], h, _ => by simp at h
  | e :: es, x :: l, h, hq => by
    obtain ⟨q1, q2, q3⟩ := hq 0 (by simp) (by simp)
    obtain ⟨r1, r2, r3⟩ := bulk_all es l (by simpa using h) (fun i h1 h2 => by
      have := hq (i + 1) (by simpa using h1) (by simpa using h2)
      simpa using this)
    simp only [List.getElem_cons_zero] at q1 q2 q3
    refine ⟨by rw [okL]; exact ⟨q1, r1⟩, ?_, ?_⟩
    · rw [depthL, Rows.uptoBulkAll]; omega
    · rw [countL, Rows.uptoBulkAll]; omega

set_option maxRecDepth 100000 in
theorem open_value {H : Type} {enc : TypeId × Value → H} {W : World} {spare : Nat → Bool} {held : Bool} : ∀ (n fuel : Nat) (cs : List Value) (x : DataW H × List MemPlace), Rows.uptoBulk x.1 ≤ n → (∀ q ∈ DataW.weights Tryd.prog 28 x.1, q ≤ reachBytes) →
    DataW.trod enc Tryd.prog W 0 spare held fuel 28 cs = some x → ∃ v, cs.length = 5 ∧ RVal (Old W) W cs v ∧ (okV v ∧ depthV v ≤ Rows.uptoBulk x.1 ∧ countV v ≤ Rows.uptoBulk x.1)
  | 0, fuel, cs, x, hn, hw, h => by
    obtain ⟨ys, m, _, rfl, _⟩ := DataW.trod_struct Tryd.underlying28 h
    simp [Rows.uptoBulk] at hn
  | n + 1, fuel, cs, x, hn, hw, h => by
    have hs := Tryd.underlying28
    have hl := open_struct_len hs h
    have hc : Tryd.prog.cellsOf 28 = 5 := by kernel_rfl
    rw [hc] at hl
    obtain ⟨a, _, ha, _⟩ := open_field hs hw h 0 rfl (by kernel_rfl) (opens_int Tryd.underlying3)
    obtain ⟨b, _, hb, _⟩ := open_field hs hw h 1 rfl (by kernel_rfl) (opens_int Tryd.underlying3)
    obtain ⟨c, _, hcc, hcs⟩ := open_field hs hw h 2 rfl (by kernel_rfl) (opens_str Tryd.underlying9)
    obtain ⟨d, _, hd, _⟩ := open_field hs hw h 3 rfl (by kernel_rfl) (opens_slice (sz := 1) (by_ := 8) Tryd.underlying25 (by kernel_rfl) (by decide) (by kernel_rfl) (opens_int Tryd.underlying3))
    obtain ⟨ys, m, _, rfl, _, hyl, hat⟩ := DataW.trod_struct hs h
    have h4 := hat 4 _ rfl
    have hil : 4 < ys.length := by rw [hyl]; decide
    rw [List.getElem?_eq_getElem hil] at h4
    have hbk : Rows.uptoBulk ys[4].1 + 1 ≤ Rows.uptoBulk (.agg (ys.map (·.1))) := by
      rw [Rows.uptoBulk]
      have := bulk_mem (List.mem_map.2 ⟨ys[4], List.getElem_mem hil, rfl⟩ : ys[4].1 ∈ ys.map (·.1))
      omega
    obtain ⟨l, _, hll, hq⟩ := open_slice_by (sz := 5) (by_ := 80) (R := RVal) (Q := fun d v => okV v ∧ depthV v ≤ Rows.uptoBulk d ∧ countV v ≤ Rows.uptoBulk d) Tryd.underlying26 (by kernel_rfl) (by decide) (by kernel_rfl) (fun q hq => hw q (by
      simp only [DataW.weights, hs]
      refine DataW.weights_mem_each (j := 4) (t := 26) (d := ys[4].1) ?_ ?_ q hq
      · rfl
      · rw [List.getElem?_map, List.getElem?_eq_getElem hil]; rfl)) h4 (fun k cs' x' ⟨elems, sp, he, hm⟩ hw' ht' => by
      refine open_value n k cs' x' ?_ hw' ht'
      have h1 := bulk_mem hm
      rw [he, Rows.uptoBulk] at hbk
      have : Rows.uptoBulk (.agg (ys.map (·.1))) ≤ n + 1 := hn
      omega)
    have hfin : okL l ∧ depthL l + 1 ≤ Rows.uptoBulk (.agg (ys.map (·.1))) ∧ countL l + 1 ≤ Rows.uptoBulk (.agg (ys.map (·.1))) := by
      rcases hq with ⟨_, rfl⟩ | ⟨elems, sp, he, hlen, hq⟩
      · refine ⟨trivial, ?_, ?_⟩
        · simp [depthL, Rows.uptoBulk]
        · simp [countL, Rows.uptoBulk]
      · obtain ⟨r1, r2, r3⟩ := bulk_all elems l hlen hq
        rw [he, Rows.uptoBulk] at hbk
        exact ⟨r1, by omega, by omega⟩
    match cs, hl with
    | [c0, c1, c2, c3, c4], _ =>
      have e0 : c0 = .int .i64 a := by simpa [RInt, RFlat] using ha
      have e1 : c1 = .int .i64 b := by simpa [RInt, RFlat] using hb
      have e2 : c2 = .string c := by simpa [RStr, RFlat] using hcc
      subst e0 e1 e2
      refine ⟨.mk a b c d l, rfl, RVal.mk hd hll, ?_, ?_, ?_⟩
      · rw [okV]; exact ⟨hcs, hfin.1⟩
      · rw [depthV]; exact hfin.2.1
      · rw [countV]; exact hfin.2.2
end Go.Proofs.YtkdmcplomfcoeaaDoor
