/- The walks of merge.gone and merge.item. -/
import Derived.Test.YtaadnlopifaagaaDoorMergeField
namespace Go.Proofs.YtaadnlopifaagaaDoor
open Go.RowKit

theorem gone_results {W : World} {a : Act} {g : Nat} {c0 c1 c2 c3 c4 c5 c6 c7 : Value} (hb : Box W g 43 [c0, c1, c2, c3, c4, c5, c6, c7]) (h4 : a.tmps.getD 4 undef = .pointer (some ⟨g, 0, none⟩)) :
    (results Tryd.f26 a.tmps).run Tryd.prog W = .ok (.agg #[c0, c1, c2, c3, c4, c5, c6, c7]) W := by
  obtain ⟨e0, e1, e2, e3, e4, e5, e6, e7⟩ := hb.eight
  simp only [Array.getD_eq_getD_getElem?] at h4
  simp [results, Tryd.results26, go_sem, h4, e0, e1, e2, e3, e4, e5, e6, e7]
theorem item_results {W : World} {a : Act} {g : Nat} {c0 c1 c2 c3 c4 c5 c6 c7 : Value} (hb : Box W g 43 [c0, c1, c2, c3, c4, c5, c6, c7]) (h4 : a.tmps.getD 4 undef = .pointer (some ⟨g, 0, none⟩)) :
    (results Tryd.f28 a.tmps).run Tryd.prog W = .ok (.agg #[c0, c1, c2, c3, c4, c5, c6, c7]) W := by
  obtain ⟨e0, e1, e2, e3, e4, e5, e6, e7⟩ := hb.eight
  simp only [Array.getD_eq_getD_getElem?] at h4
  simp [results, Tryd.results28, go_sem, h4, e0, e1, e2, e3, e4, e5, e6, e7]

/-- A number that tells by its sign, the world as it was. -/
def SignPur (b : Bool) (w : World) (e : Ending) (w' : World) : Prop := ∃ i : Int, e = .returned (.int .i64 i) ∧ Hid (decide (0 ≤ i) = b) ∧ w' = w

set_option maxRecDepth 100000 in
set_option maxHeartbeats 1000000 in
theorem indexI_any (S : Nat → Prop) (v : Value) (l : List Int) (x : Int) (w : World) (hl : RSl 1 8 RInt S w [v] l) :
    Calls Tryd.prog 55 #[v, .int .i64 x] w (SignPur (hasI l x) w) := by
  obtain ⟨A, cap, rfl, hlc, hlb⟩ := hl.form
  have HL := Lib.hid hl
  clear hl
  go_enter Tryd.func55, Tryd.ntmps55
  go_wp2_with fail
  go_loop [8] (fun i => ∃ k : Nat, i = .int .i64 k ∧ k ≤ l.length ∧ Hid (hasI (l.drop k) x = hasI l x)) (fun i => l.length - (intOf i).toNat)
  case atStart => exact ⟨0, rfl, by omega, (show _ = _ by rw [List.drop_zero])⟩
  case round =>
    obtain ⟨k, rfl, hk, hn⟩ := hrel
    by_cases hlt : k < l.length
    · obtain ⟨g, o, es, rfl, hS, hg, hes, hr, hc⟩ := HL.out.at_ hlt
      have hd : l.drop k = l[k] :: l.drop (k + 1) := List.drop_eq_getElem_cons hlt
      obtain ⟨y, hye⟩ : ∃ y, y = l[k] := ⟨_, rfl⟩
      rw [← hye] at hr hd
      have hr' : es = [.int .i64 y] := hr
      subst hr'
      have q0 : w.cell? ⟨g, o + k, none⟩ = some (.int .i64 y) := by have := hc.at_ 0 rfl; simpa using this
      have hh : hasI l x = (decide (y = x) || hasI (l.drop (k + 1)) x) := by rw [← hn.out, hd]; rfl
      by_cases he : x = y
      · subst he
        have Hi := Lib.hid (show hasI l x = true by rw [hh]; simp)
        clear hr hc hye hes hh hd hn
        go_wp2_with fail
        go_ret
        refine ⟨_, rfl, ?_, rfl⟩
        show _ = _
        rw [Hi.out]; simp
      · have hne : (x == y) = false := by simpa using he
        have Hi := Lib.hid (show hasI (l.drop (k + 1)) x = hasI l x by rw [hh, decide_eq_false (fun h => he h.symm)]; rfl)
        clear hr hc hye hes hh hd hn
        go_wp2_with fail
        go_round
        case rel => exact ⟨k + 1, by go_num, by omega, Hi⟩
        case measure => simp [intOf]; omega
    · have Hi := Lib.hid (show hasI l x = false by rw [← hn.out, List.drop_eq_nil_of_le (by omega)]; rfl)
      clear hn
      go_wp2_with fail
      go_ret
      refine ⟨_, rfl, ?_, rfl⟩
      show _ = _
      rw [Hi.out]; rfl

set_option maxRecDepth 100000 in
theorem containsI_any (S : Nat → Prop) (v : Value) (l : List Int) (x : Int) (w : World) (hl : RSl 1 8 RInt S w [v] l) :
    Calls Tryd.prog 40 #[v, .int .i64 x] w (Pur w (.bool (hasI l x))) := by
  have HL := Lib.hid hl
  clear hl
  go_enter Tryd.func40, Tryd.ntmps40
  go_wp2_with fail
  refine (indexI_any S v l x _ HL.out).mono ?_
  rintro e w1 ⟨i, rfl, Hi, rfl⟩
  go_wp2_with fail
  go_ret
  exact ⟨ret_b (by first | exact Hi.out | (rw [← Hi.out]; simp)), rfl⟩

set_option maxRecDepth 100000 in
set_option maxHeartbeats 4000000 in
theorem gone_any (S : Nat → Prop) (cs : List Value) (t : TypeD) (id : Int) (w : World) (ht : RType S w cs t) : Calls Tryd.prog 26 #[.agg cs.toArray, .int .i64 id] w (StPost w (goneS t id)) := by
  obtain ⟨B1, l1, B2, l2, B3, l3, rfl, -, hG, -⟩ := ht.parts
  obtain ⟨x1, x2, x3⟩ := boxes2 w [.string t.name, .bool t.enum, .slice B1 t.fields.length l1, .slice B2 t.gone.length l2, .slice B3 t.items.length l3] [.bool false, .bool false, .int .i64 0, .string ⟨#[]⟩, .string ⟨#[]⟩, .int .i64 0, .int .i64 0, .string ⟨#[]⟩] 51 43
  have hG2 := (RSl.fair RInt.fair).below hG x3
  have HC := Lib.hid (containsI_any S _ t.gone id _ hG2)
  obtain ⟨c0, c1, c2, c3, c4⟩ := x1.five
  have hl1 := x1.lt
  obtain ⟨ok, hok⟩ : ∃ ok, ok = hasI t.gone id := ⟨_, rfl⟩
  have Hr := Lib.hid (show goneS t id = ⟨ok, false, .zero, ⟨#[]⟩⟩ by rw [hok]; rfl)
  rw [← hok] at HC
  clear ht hG hG2 hok
  go_enter Tryd.func26, Tryd.ntmps26
  obtain ⟨r0, r1, r2, r3, r4, r5, r6, r7⟩ := x2.eight
  have g0 := x2.frozen 0
  have g1 := x2.frozen 1
  have g2 := x2.frozen 2
  have g3 := x2.frozen 3
  have g4 := x2.frozen 4
  have g5 := x2.frozen 5
  have g6 := x2.frozen 6
  have g7 := x2.frozen 7
  have hlr := x2.lt
  go_wp2_with fail
  refine HC.out.mono ?_
  rintro e w1 ⟨rfl, rfl⟩
  clear HC
  have hb5 := x2.setCells [.bool ok, .bool false, .int .i64 0, .string ⟨#[]⟩, .string ⟨#[]⟩, .int .i64 0, .int .i64 0, .string ⟨#[]⟩] rfl
  have hw5 := below_setCells (g := w.heap.size + 1) (by go_light; omega) [.bool ok, .bool false, .int .i64 0, .string ⟨#[]⟩, .string ⟨#[]⟩, .int .i64 0, .int .i64 0, .string ⟨#[]⟩] 0 _ x3
  clear c0 c1 c2 c3 c4 x1
  generalize (w.alloc _).alloc _ = W at *
  go_wp2_with fail
  change bodyPost _ _ _ _ _ (setCells W (w.heap.size + 1) 0 [.bool ok, .bool false, .int .i64 0, .string ⟨#[]⟩, .string ⟨#[]⟩, .int .i64 0, .int .i64 0, .string ⟨#[]⟩])
  clear r0 r1 r2 r3 r4 r5 r6 r7 g0 g1 g2 g3 g4 g5 g6 g7
  generalize setCells W (w.heap.size + 1) 0 _ = W5 at hb5 hw5 ⊢
  rw [Hr.out]
  exact bodyPost_ret (gone_results hb5 rfl) rfl ⟨rfl, hw5⟩

set_option maxRecDepth 100000 in
set_option maxHeartbeats 4000000 in
theorem item_any (S : Nat → Prop) (cs : List Value) (t : TypeD) (n : Int) (w : World) (ht : RType S w cs t) : Calls Tryd.prog 28 #[.agg cs.toArray, .int .i64 n] w (StPost w (itemS t n)) := by
  obtain ⟨B1, l1, B2, l2, B3, l3, rfl, -, -, hI⟩ := ht.parts
  obtain ⟨A', cap', h', hlc, hlb⟩ := hI.form
  obtain ⟨x1, x2, x3⟩ := boxes2 w [.string t.name, .bool t.enum, .slice B1 t.fields.length l1, .slice B2 t.gone.length l2, .slice B3 t.items.length l3] [.bool false, .bool false, .int .i64 0, .string ⟨#[]⟩, .string ⟨#[]⟩, .int .i64 0, .int .i64 0, .string ⟨#[]⟩] 51 43
  have HI := Lib.hid hI
  obtain ⟨c0, c1, c2, c3, c4⟩ := x1.five
  have hl1 := x1.lt
  clear ht hI h'
  go_enter Tryd.func28, Tryd.ntmps28
  go_wp2_with fail
  go_loopw [10] (fun i wr => ∃ k : Nat, i = .int .i64 k ∧ k ≤ t.items.length ∧ Hid ((t.items.drop k).find? (fun x => decide (x.n = n)) = itemOf t n) ∧ Box wr (w.heap.size + 1) 43 [.bool false, .bool false, .int .i64 0, .string ⟨#[]⟩, .string ⟨#[]⟩, .int .i64 0, .int .i64 0, .string ⟨#[]⟩] ∧ Below w.heap.size w wr) (fun i _ => t.items.length - (intOf i).toNat)
  case atStart => exact ⟨0, rfl, by omega, (show _ = _ by rw [List.drop_zero]; rfl), x2, x3⟩
  case round =>
    obtain ⟨k, rfl, hk, he, hbx, hb⟩ := hrel
    clear x1 x2 x3 c0 c1 c2 c3 c4 hl1
    by_cases hlt : k < t.items.length
    · obtain ⟨g, o, rfl, hS, hg⟩ := HI.out.base (by omega)
      have hc := (HI.out.flat (enc := itemCells) hlt).keep (Keep.of_below hb) hS
      have hgw : g < wr.heap.size := Nat.lt_of_lt_of_le hg hb.size
      have hd : t.items.drop k = t.items[k] :: t.items.drop (k + 1) := List.drop_eq_getElem_cons hlt
      obtain ⟨x, hxe⟩ : ∃ x, x = t.items[k] := ⟨_, rfl⟩
      rw [← hxe] at hc hd
      rw [hd] at he
      obtain ⟨xname, xn⟩ := x
      have q0 : wr.cell? ⟨g, o + k * 2, none⟩ = some (.string xname) := hc.at_ 0 rfl
      have q1 : wr.cell? ⟨g, o + k * 2 + 1, none⟩ = some (.int .i64 xn) := hc.at_ 1 rfl
      clear hc hd hxe
      have hwa := hb.alloc hb.size (.cells #[.string xname, .int .i64 xn] 68)
      by_cases hn : xn = n
      · subst hn
        have Hr := Lib.hid (show itemS t xn = ⟨true, false, .zero, xname⟩ by unfold itemS; rw [← he.out]; simp)
        have hb5 := (hbx.setCells [.bool true, .bool false, .int .i64 0, .string ⟨#[]⟩, .string ⟨#[]⟩, .int .i64 0, .int .i64 0, .string xname] rfl).alloc (.cells #[.string xname, .int .i64 xn] 68)
        have hw5 := below_setCells (g := w.heap.size + 1) (by go_light; omega) [.bool true, .bool false, .int .i64 0, .string ⟨#[]⟩, .string ⟨#[]⟩, .int .i64 0, .int .i64 0, .string xname] 0 _ hb
        have hw6 := hw5.alloc hw5.size (.cells #[.string xname, .int .i64 xn] 68)
        obtain ⟨r0, r1, r2, r3, r4, r5, r6, r7⟩ := hbx.eight
        have g0 := hbx.frozen 0
        have g1 := hbx.frozen 1
        have g2 := hbx.frozen 2
        have g3 := hbx.frozen 3
        have g4 := hbx.frozen 4
        have g5 := hbx.frozen 5
        have g6 := hbx.frozen 6
        have g7 := hbx.frozen 7
        have hlr := hbx.lt
        clear he hw5 hwa
        go_wp2_with fail
        change bodyPost _ _ _ _ _ ((setCells wr (w.heap.size + 1) 0 [.bool true, .bool false, .int .i64 0, .string ⟨#[]⟩, .string ⟨#[]⟩, .int .i64 0, .int .i64 0, .string xname]).alloc (.cells #[.string xname, .int .i64 xn] 68))
        clear r0 r1 r2 r3 r4 r5 r6 r7 g0 g1 g2 g3 g4 g5 g6 g7
        generalize (setCells wr (w.heap.size + 1) 0 _).alloc _ = W5 at hb5 hw6 ⊢
        rw [Hr.out]
        exact bodyPost_ret (item_results hb5 rfl) rfl ⟨rfl, hw6⟩
      · have hne : (xn == n) = false := by simpa using hn
        have He := Lib.hid (show (t.items.drop (k + 1)).find? (fun x => decide (x.n = n)) = itemOf t n by rw [← he.out, List.find?_cons]; simp [hn])
        have hbn := hbx.alloc (.cells #[.string xname, .int .i64 xn] 68)
        clear he hbx
        go_wp2_with fail
        go_roundw
        case rel => exact ⟨k + 1, by go_num, by omega, He, hbn, hwa⟩
        case measure => simp [intOf]; omega
    · have Hr := Lib.hid (show itemS t n = noS by unfold itemS; rw [← he.out, List.drop_eq_nil_of_le (by omega)]; rfl)
      have hb5 := hbx.setCells [.bool false, .bool false, .int .i64 0, .string ⟨#[]⟩, .string ⟨#[]⟩, .int .i64 0, .int .i64 0, .string ⟨#[]⟩] rfl
      have hw5 := below_setCells (g := w.heap.size + 1) (by go_light; omega) [.bool false, .bool false, .int .i64 0, .string ⟨#[]⟩, .string ⟨#[]⟩, .int .i64 0, .int .i64 0, .string ⟨#[]⟩] 0 _ hb
      obtain ⟨r0, r1, r2, r3, r4, r5, r6, r7⟩ := hbx.eight
      have g0 := hbx.frozen 0
      have g1 := hbx.frozen 1
      have g2 := hbx.frozen 2
      have g3 := hbx.frozen 3
      have g4 := hbx.frozen 4
      have g5 := hbx.frozen 5
      have g6 := hbx.frozen 6
      have g7 := hbx.frozen 7
      have hlr := hbx.lt
      clear he
      go_wp2_with fail
      change bodyPost _ _ _ _ _ (setCells wr (w.heap.size + 1) 0 [.bool false, .bool false, .int .i64 0, .string ⟨#[]⟩, .string ⟨#[]⟩, .int .i64 0, .int .i64 0, .string ⟨#[]⟩])
      clear r0 r1 r2 r3 r4 r5 r6 r7 g0 g1 g2 g3 g4 g5 g6 g7
      generalize setCells wr (w.heap.size + 1) 0 _ = W5 at hb5 hw5 ⊢
      rw [Hr.out]
      exact bodyPost_ret (item_results hb5 rfl) rfl ⟨rfl, hw5⟩
end Go.Proofs.YtaadnlopifaagaaDoor
