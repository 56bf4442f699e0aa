/- The walk of compat.with. -/
import Derived.Test.YtfidfakcbjoilaaDoorWith1
set_option linter.all false
set_option maxRecDepth 100000
set_option maxHeartbeats 8000000
namespace Go.Proofs.YtfidfakcbjoilaaDoor
open Go.RowKit
attribute [local go_sem ↓] Go.wp_at_zero Go.wp_at_succ
def ValAny (S : Nat → Prop) (w : World) (v : ValueD) (e : Ending) (w' : World) : Prop := ∃ cs, e = .returned (.agg cs.toArray) ∧ RVal (Un S w) w' cs v ∧ Below w.heap.size w w'
def wPut (id : Int) (z : List (Int × ValueD)) (k : Nat) : Bool := (z.take k).any fun p => decide (id ≤ p.1)
def wOut (id : Int) (l : List ValueD) (z : List (Int × ValueD)) (k : Nat) : List (Int × ValueD) :=
 (z.take k).filter (fun p => decide (p.1 < id)) ++ (if wPut id z k = true then l.map (fun x => (id, x)) ++ (z.take k).filter (fun p => decide (id < p.1)) else [])
def wPre (id : Int) (l : List ValueD) (z : List (Int × ValueD)) (k : Nat) (n : Int) : List (Int × ValueD) := if wPut id z k = false ∧ id ≤ n then wOut id l z k ++ l.map (fun x => (id, x)) else wOut id l z k
theorem wPut_false {id : Int} {z : List (Int × ValueD)} {k : Nat} (h : wPut id z k = false) : (z.take k).filter (fun p => decide (id < p.1)) = [] := by
 rw [List.filter_eq_nil_iff]
 intro p hp
 have := List.any_eq_false.1 h p hp
 simp only [decide_eq_true_eq] at this ⊢
 omega
theorem wOut_step {id : Int} {l : List ValueD} {z : List (Int × ValueD)} (hs : z.Pairwise (fun p q => p.1 < q.1)) {k : Nat} (hk : k < z.length) :
  wOut id l z (k + 1) = wPre id l z k z[k].1 ++ (if z[k].1 ≠ id then [z[k]] else []) ∧ wPut id z (k + 1) = (wPut id z k || decide (id ≤ z[k].1)) := by
 have ht : z.take (k + 1) = z.take k ++ [z[k]] := List.take_succ_eq_append_getElem hk
 have hput : wPut id z (k + 1) = (wPut id z k || decide (id ≤ z[k].1)) := by
  unfold wPut
  rw [ht, List.any_append]; simp
 refine ⟨?_, hput⟩
 have hlt : ∀ p ∈ z.take k, p.1 < z[k].1 := by
  intro p hp
  obtain ⟨i, hi, rfl⟩ := List.getElem_of_mem hp
  rw [List.length_take] at hi
  rw [List.getElem_take]
  exact List.pairwise_iff_getElem.1 hs i k (by omega) hk (by omega)
 unfold wPre wOut
 rw [hput, ht, List.filter_append, List.filter_append]
 cases hp : wPut id z k with
 | true =>
  obtain ⟨p, hpm, hpi⟩ := List.any_eq_true.1 hp
  simp only [decide_eq_true_eq] at hpi
  have := hlt p hpm
  have h1 : id < z[k].1 := by omega
  have h2 : ¬ z[k].1 < id := by omega
  have h3 : z[k].1 ≠ id := by omega
  simp [h1, h2, h3]
 | false =>
  have hnil := wPut_false hp
  rcases Int.lt_trichotomy z[k].1 id with h | h | h
  ·have h1 : ¬ id ≤ z[k].1 := by omega
   have h3 : z[k].1 ≠ id := by omega
   simp [h, h1, h3]
  ·have h1 : id ≤ z[k].1 := by omega
   have h2 : ¬ z[k].1 < id := by omega
   have h4 : ¬ id < z[k].1 := by omega
   simp [h, hnil]
  ·have h1 : id ≤ z[k].1 := by omega
   have h2 : ¬ z[k].1 < id := by omega
   have h3 : z[k].1 ≠ id := by omega
   simp [h, h1, h2, h3, hnil]
theorem wOut_all (id : Int) (l : List ValueD) (z : List (Int × ValueD)) : (if wPut id z z.length = false then wOut id l z z.length ++ l.map (fun x => (id, x)) else wOut id l z z.length) = withZ id l z := by
 unfold wOut withZ
 cases hp : wPut id z z.length with
 | true => rw [List.take_length]; simp
 | false =>
  have hnil := wPut_false hp
  rw [List.take_length] at hnil ⊢
  rw [hnil]; simp
theorem wOut_len (id : Int) (l : List ValueD) (z : List (Int × ValueD)) (k : Nat) : (wOut id l z k).length ≤ 2 * z.length + l.length := by
 unfold wOut
 have h1 := List.length_filter_le (fun p : Int × ValueD => decide (p.1 < id)) (z.take k)
 have h2 := List.length_filter_le (fun p : Int × ValueD => decide (id < p.1)) (z.take k)
 rw [List.length_take] at h1 h2
 split
 ·simp only [List.length_append, List.length_map]; omega
 ·simp only [List.length_append, List.length_nil]; omega
theorem with_results {W : World} {a : Act} {g : Nat} {c0 c1 c2 c3 c4 : Value} (hb : Box W g 28 [c0, c1, c2, c3, c4]) (h4 : a.tmps.getD 8 undef = .pointer (some ⟨g, 0, none⟩)) :
  (results Tryd.f53 a.tmps).run Tryd.prog W = .ok (.agg #[c0, c1, c2, c3, c4]) W := by
 obtain ⟨e0, e1, e2, e3, e4⟩ := hb.five
 simp only [Array.getD_eq_getD_getElem?] at h4
 simp [results, Tryd.results53, go_sem, h4, e0, e1, e2, e3, e4]
theorem with_any (S SL : Nat → Prop) (vb : Value) (b : BookD) (hg : goodF b = 0) (hBk : BookOk b) (name : ByteArray) (hno : noneB b name = false) (id : Int) (A : Option Addr) (cap : Nat) (l : List ValueD) (w : World) (hb0 : RSl 5 96 RType S w [vb] b) (hW : Words w)
  (hl : RSl 5 80 RVal SL w [.slice A l.length cap] l) (hln : l.length ≤ 500) :
  Calls Tryd.prog 53 #[.agg #[vb], .string name, .int .i64 id, .slice A l.length cap] w (ValAny SL w (withF b (typeOf b name) id l)) := by
 obtain ⟨AB, cb, rfl, -, -⟩ := hb0.form
 obtain ⟨x1, x2, x3, x4, x5⟩ := boxes4 w [.slice AB b.length cb] [.int .i64 id] [.slice A l.length cap] [.int .i64 0, .int .i64 0, .string ⟨#[]⟩, .slice none 0 0, .slice none 0 0] 24 3 26 28
 have hls := Lib.hid (vLeast_any S _ b name _ ((RSl.fair RType.fair).below hb0 x5) (hW.below x5) hBk)
 obtain ⟨t, _, hty, htm, _, hte⟩ := noneB_type hno
 have hm := good_msg hg htm hte
 have hlf : LeastF b name = (msgV ((leastZ b t).map (·.1)) ((leastZ b t).map (·.2)), 0) := by
  unfold LeastF
  rw [if_neg (by simpa using hg), if_neg (by rw [hno]; decide), hty, leastZ_tf]
 rw [hlf] at hls
 have hsort := leastZ_sorted hm
 have hz5 : (leastZ b t).length ≤ 5 := by
  unfold leastZ onesL
  rw [List.length_map]
  have := List.length_filter_le (fun g : FieldD => decide (g.rule = 1)) t.fields
  have := hm.1
  omega
 have hwf : withF b (typeOf b name) id l = msgV ((withZ id l (leastZ b t)).map (·.1)) ((withZ id l (leastZ b t)).map (·.2)) := by rw [hty]; rfl
 rw [hwf]
 obtain ⟨z, hz⟩ : ∃ z, z = leastZ b t := ⟨_, rfl⟩
 rw [← hz] at hls hsort hz5 ⊢
 have Hsort := Lib.hid hsort
 have HL := Lib.hid ((RSl.fair RVal.fair).mono hl (T := fun y => SL y ∧ y < w.heap.size) (fun y hy h => ⟨hy, h⟩))
 have z1 := x1.cell 0
 have l1 := x1.lt
 clear hb0 hW hBk hg hno hl hty htm hte hm hlf hwf hz hsort
 go_enter Tryd.func53, Tryd.ntmps53
 go_wp2_with fail
 refine hls.out.mono ?_
 rintro e w1 ⟨cs1, rfl, hr1, hb1⟩
 obtain ⟨I1, d1, I2, d2, rfl, hri, hrl⟩ := RVal.parts (kind := 2) (n := 0) (s := ⟨#[]⟩) (ids := z.map (·.1)) (l := z.map (·.2)) hr1
 simp only [List.length_map] at hri hrl ⊢
 have y2 := x2.below hb1 x2.lt
 have y3 := x3.below hb1 x3.lt
 have y4 := x4.below hb1 x4.lt
 have hw1 := below_via x5 hb1 x5.size
 have hsz : w.heap.size + 1 + 1 + 1 < w1.heap.size := y4.lt
 have HI := Lib.hid ((RSl.fair RInt.fair).mono hri (T := fun y => w.heap.size + 1 + 1 + 1 + 1 ≤ y ∧ y < w1.heap.size) (fun y hy hl => ⟨by simpa [New] using hy, hl⟩))
 have HV := Lib.hid ((RSl.fair RVal.fair).mono hrl (T := fun y => w.heap.size + 1 + 1 + 1 + 1 ≤ y ∧ y < w1.heap.size) (fun y hy hl => ⟨by simpa [New] using hy, hl⟩))
 have Hw1 := Lib.hid hw1
 clear hr1 hri hrl x1 x2 x3 x4 x5 hb1 z1 l1 hls
 have hw0 := ((hw1.alloc hw1.size (.cells [.int .i64 2, .int .i64 0, .string ⟨#[]⟩, .slice I1 z.length d1, .slice I2 z.length d2].toArray 28)).alloc (by simp; omega) (.cells #[.int .i64 2, .int .i64 0, .string ⟨#[]⟩, .slice none 0 0, .slice none 0 0] 28)).alloc (by simp; omega) (.cells #[.bool false] 4)
 obtain ⟨v1, v2, v3, -⟩ := boxes3 w1 [.int .i64 2, .int .i64 0, .string ⟨#[]⟩, .slice I1 z.length d1, .slice I2 z.length d2] [.int .i64 2, .int .i64 0, .string ⟨#[]⟩, .slice none 0 0, .slice none 0 0] [.bool false] 28 28 4
 have u2 := ((y2.alloc (.cells [.int .i64 2, .int .i64 0, .string ⟨#[]⟩, .slice I1 z.length d1, .slice I2 z.length d2].toArray 28)).alloc (.cells #[.int .i64 2, .int .i64 0, .string ⟨#[]⟩, .slice none 0 0, .slice none 0 0] 28)).alloc (.cells #[.bool false] 4)
 have u3 := ((y3.alloc (.cells [.int .i64 2, .int .i64 0, .string ⟨#[]⟩, .slice I1 z.length d1, .slice I2 z.length d2].toArray 28)).alloc (.cells #[.int .i64 2, .int .i64 0, .string ⟨#[]⟩, .slice none 0 0, .slice none 0 0] 28)).alloc (.cells #[.bool false] 4)
 have u4 := ((y4.alloc (.cells [.int .i64 2, .int .i64 0, .string ⟨#[]⟩, .slice I1 z.length d1, .slice I2 z.length d2].toArray 28)).alloc (.cells #[.int .i64 2, .int .i64 0, .string ⟨#[]⟩, .slice none 0 0, .slice none 0 0] 28)).alloc (.cells #[.bool false] 4)
 have hK0 : Below w1.heap.size w1 (((w1.alloc (.cells [.int .i64 2, .int .i64 0, .string ⟨#[]⟩, .slice I1 z.length d1, .slice I2 z.length d2].toArray 28)).alloc (.cells #[.int .i64 2, .int .i64 0, .string ⟨#[]⟩, .slice none 0 0, .slice none 0 0] 28)).alloc (.cells #[.bool false] 4)) := (((Below.refl _ _).alloc (Nat.le_refl _) _).alloc (by simp) _).alloc (by simp; omega) _
 have HI0 := Lib.hid ((RSl.fair RInt.fair).below HI.out hK0)
 have HV0 := Lib.hid ((RSl.fair RVal.fair).below HV.out hK0)
 have HL0 := Lib.hid ((RSl.fair RVal.fair).below HL.out hw0)
 have hs0 : (((w1.alloc (.cells [.int .i64 2, .int .i64 0, .string ⟨#[]⟩, .slice I1 z.length d1, .slice I2 z.length d2].toArray 28)).alloc (.cells #[.int .i64 2, .int .i64 0, .string ⟨#[]⟩, .slice none 0 0, .slice none 0 0] 28)).alloc (.cells #[.bool false] 4)).heap.size = w1.heap.size + 1 + 1 + 1 := by simp
 clear HI HV HL hw1 hK0 y2 y3 y4
 go_upto_region 5 with fail
 generalize ((w1.alloc (.cells [.int .i64 2, .int .i64 0, .string ⟨#[]⟩, .slice I1 z.length d1, .slice I2 z.length d2].toArray 28)).alloc (.cells #[.int .i64 2, .int .i64 0, .string ⟨#[]⟩, .slice none 0 0, .slice none 0 0] 28)).alloc (.cells #[.bool false] 4) = W0 at hw0 v1 v2 v3 u2 u3 u4 HI0 HV0 HL0 hs0 ⊢
 have hG0 : (w1.heap.size + 1) ≤ W0.heap.size := by omega
 have hR0 := Rows2.new (fun y => (SL y ∧ y < w.heap.size) ∨ (w.heap.size + 1 + 1 + 1 + 1 ≤ y ∧ y < w1.heap.size) ∨ w1.heap.size + 1 + 1 + 1 ≤ y) (w1.heap.size + 1 + 1 + 1) W0 (w1.heap.size + 1) (by omega) (by omega)
 have U2 := Lib.hid u2
 have U3 := Lib.hid u3
 have U4 := Lib.hid u4
 have V1 := Lib.hid v1
 have c3 := v1.cell 3
 have l3 := v1.lt
 simp only [List.getElem?_cons_zero, List.getElem?_cons_succ] at c3
 clear u2 u3 u4
 go_wp2_with fail
 clear c3 l3
 go_loopw [27] (fun i wr => ∃ (k : Nat) (vi vl : Value), i = .int .i64 k ∧ k ≤ z.length ∧ Rows2 (fun y => (SL y ∧ y < w.heap.size) ∨ (w.heap.size + 1 + 1 + 1 + 1 ≤ y ∧ y < w1.heap.size) ∨ w1.heap.size + 1 + 1 + 1 ≤ y) (w1.heap.size + 1 + 1 + 1) wr (w1.heap.size + 1) vi vl ((wOut id l z k).map (·.1)) ((wOut id l z k).map (·.2)) ∧ Box wr (w1.heap.size + 1) 28 [.int .i64 2, .int .i64 0, .string ⟨#[]⟩, vi, vl] ∧ Box wr (w1.heap.size + 1 + 1) 4 [.bool (wPut id z k)] ∧ Below (w1.heap.size + 1) W0 wr) (fun i _ => z.length - (intOf i).toNat)
 case atStart => exact ⟨0, _, _, rfl, Nat.zero_le _, by simpa [wOut, wPut] using hR0, v2, by simpa [wPut] using v3, Below.refl _ _⟩
 case round =>
  clear hR0 v2 v3 v1
  obtain ⟨k, vi, vl, rfl, hk, hR, zG, zP, hw⟩ := hrel
  have hGr := Nat.le_trans hG0 hw.size
  by_cases hkl : k < z.length
  ·skip
   obtain ⟨ig, io, rfl, hSi, hgi⟩ := HI0.out.base (by rw [List.length_map]; omega)
   obtain ⟨lg, lo, rfl, hSl, hlgw⟩ := HV0.out.base (by rw [List.length_map]; omega)
   have hkeep := keep_below hw hw.size
   have hiG : ig < (w1.heap.size + 1) := by have := hSi.2; omega
   have hlG : lg < (w1.heap.size + 1) := by have := hSl.2; omega
   have hci := (HI0.out.flat (enc := fun x : Int => [.int .i64 x]) (k := k) (by rw [List.length_map]; omega)).keep hkeep hiG
   obtain ⟨es, _, hrx, hlies⟩ := HV0.out.lies (k := k) (by rw [List.length_map]; omega)
   rw [List.getElem_map] at hci hrx
   obtain ⟨hst, hpt⟩ := wOut_step (id := id) (l := l) Hsort.out hkl
   obtain ⟨⟨n, x⟩, hx⟩ : ∃ p, p = z[k] := ⟨_, rfl⟩
   rw [← hx] at hci hrx hst hpt
   dsimp only at hci hrx hst hpt
   obtain ⟨xk, xn, xs, xi, xl⟩ := x
   obtain ⟨E1, f1, E2, f2, rfl, _, _⟩ := hrx.parts
   have HXr := Lib.hid hrx
   have HLs := Lib.hid hlies
   have hlen := wOut_len id l z k
   obtain ⟨P0, hP0⟩ : ∃ P, P = wOut id l z k := ⟨_, rfl⟩
   obtain ⟨put, hput⟩ : ∃ p, p = wPut id z k := ⟨_, rfl⟩
   have hP1e : wPre id l z k n = if put = false ∧ id ≤ n then P0 ++ l.map (fun x => (id, x)) else P0 := by rw [hP0, hput]; rfl
   rw [← hP0] at hR hlen
   rw [← hput] at zP hpt
   obtain ⟨P1, hP1⟩ : ∃ P, P = wPre id l z k n := ⟨_, rfl⟩
   rw [← hP1] at hst hP1e
   have hl1 : P1.length ≤ 1100 := by
    rw [hP1e]
    split
    ·rw [List.length_append, List.length_map]; omega
    ·omega
   have HP1 := Lib.hid hP1e
   have Hst0 := Lib.hid hst
   have Hpt := Lib.hid hpt
   have q0 : wr.cell? ⟨ig, io + k, none⟩ = some (.int .i64 n) := by have := hci.at_ 0 rfl; simpa using this
   have hgil : ig < wr.heap.size := Nat.lt_of_lt_of_le hiG hGr
   have zI := U2.out.below hw (by omega)
   have zL := U3.out.below hw (by omega)
   have cI := zI.cell 0
   have lI := zI.lt
   have cP := zP.cell 0
   have lP := zP.lt
   clear hci hrx hlies hst hpt hP1e hP0 hput hP1 hx hgi hlgw
   go_upto_region 8 with fail
   clear q0 hgil
   go_cut [38] from 32 to 38 (fun c W => c = .bool (decide (id ≤ n) && !put) ∧ W = wr)
   case first =>
    clear hR zG zP zI zL hw hkeep
    by_cases hge : id ≤ n
    ·have hgd : decide (id ≤ n) = true := by simpa using hge
     cases put with
     | false =>
      clear hge
      go_wp2_with fail
      go_meet
      case rel => exact ⟨by rw [hgd]; rfl, rfl⟩
     | true =>
      clear hge
      go_wp2_with fail
      go_meet
      case rel => exact ⟨by rw [hgd]; rfl, rfl⟩
    ·have hgd : decide (id ≤ n) = false := by simpa using hge
     clear hge
     go_wp2_with fail
     go_meet
     case rel => exact ⟨by rw [hgd]; rfl, rfl⟩
   case rest =>
   obtain ⟨rfl, rfl⟩ := hcut
   go_upto_if 38 with fail
   go_cut [] from 38 to 40 (fun W => ∃ vi vl : Value, Rows2 (fun y => (SL y ∧ y < w.heap.size) ∨ (w.heap.size + 1 + 1 + 1 + 1 ≤ y ∧ y < w1.heap.size) ∨ w1.heap.size + 1 + 1 + 1 ≤ y) (w1.heap.size + 1 + 1 + 1) W (w1.heap.size + 1) vi vl (P1.map (·.1)) (P1.map (·.2)) ∧ Box W (w1.heap.size + 1) 28 [.int .i64 2, .int .i64 0, .string ⟨#[]⟩, vi, vl] ∧ Box W (w1.heap.size + 1 + 1) 4 [.bool (put || decide (id ≤ n))] ∧ Below (w1.heap.size + 1) W0 W)
   case first =>
    by_cases hge : id ≤ n
    ·have hgd : decide (id ≤ n) = true := by simpa using hge
     cases put with
     | false =>
      have hP : P1 = P0 ++ l.map (fun x => (id, x)) := by rw [HP1.out, if_pos ⟨rfl, hge⟩]
      simp only [hgd, Bool.not_false, Bool.and_true]
      have hcall := Lib.hid (with1_any (fun y => (SL y ∧ y < w.heap.size) ∨ (w.heap.size + 1 + 1 + 1 + 1 ≤ y ∧ y < w1.heap.size) ∨ w1.heap.size + 1 + 1 + 1 ≤ y) (fun y => SL y ∧ y < w.heap.size) (w1.heap.size + 1 + 1 + 1) (w1.heap.size + 1) (w.heap.size + 1 + 1) (w.heap.size + 1) (w1.heap.size + 1 + 1) A cap id l (P0.map (·.2)) (P0.map (·.1)) vi vl _ hR zG zL zI zP ((RSl.fair RVal.fair).keep HL0.out (hkeep.mono (fun y hy => by have := hy.2; omega)))
       (fun y hy _ => by have := hy.2; exact ⟨by omega, .inl hy⟩) (by omega) (by omega) (by omega) (by omega) (by rintro (h | h | h) <;> omega) (by rw [List.length_map]; omega) (by rw [List.length_map]; omega) (by omega))
      have Hw := Lib.hid hw
      have Hh := Lib.hid hP
      clear hge hP HP1 hR zG zP zI zL hw hkeep
      go_wp2_with fail
      refine hcall.out.mono ?_
      rintro e w5 ⟨vi', vl', rfl, hR', zG', zP', hb'⟩
      have hw5 := Hw.out.trans hb'
      have hR5 : Rows2 (fun y => (SL y ∧ y < w.heap.size) ∨ (w.heap.size + 1 + 1 + 1 + 1 ≤ y ∧ y < w1.heap.size) ∨ w1.heap.size + 1 + 1 + 1 ≤ y) (w1.heap.size + 1 + 1 + 1) w5 (w1.heap.size + 1) vi' vl' (P1.map (·.1)) (P1.map (·.2)) := by
       rw [Hh.out, List.map_append, List.map_append, List.map_map, List.map_map]
       have e2 : l.map ((fun p : Int × ValueD => p.2) ∘ fun x => (id, x)) = l := by simp [Function.comp_def]
       rw [e2]
       exact hR'
      clear hR' hb' hcall
      go_wp2_with fail
      go_meet
      case rel => exact ⟨vi', vl', hR5, zG', by simpa [hgd] using zP', hw5⟩
     | true =>
      simp only [hgd, Bool.not_true, Bool.and_false]
      have hP : P1 = P0 := by rw [HP1.out, if_neg (fun h => by cases h.1)]
      have Hrel := Lib.hid (And.intro hR (And.intro zG (And.intro zP hw)))
      have Hh := Lib.hid hP
      clear hge hP HP1 hR zG zP zI zL hw hkeep
      go_wp2_with fail
      go_meet
      case rel => exact ⟨vi, vl, by rw [Hh.out]; exact Hrel.out.1, Hrel.out.2.1, by simpa using Hrel.out.2.2.1, Hrel.out.2.2.2⟩
    ·have hgd : decide (id ≤ n) = false := by simpa using hge
     simp only [hgd, Bool.false_and]
     have hP : P1 = P0 := by rw [HP1.out, if_neg (fun h => hge h.2)]
     have Hrel := Lib.hid (And.intro hR (And.intro zG (And.intro zP hw)))
     have Hh := Lib.hid hP
     clear hge hP HP1 hR zG zP zI zL hw hkeep
     go_wp2_with fail
     go_meet
     case rel => exact ⟨vi, vl, by rw [Hh.out]; exact Hrel.out.1, Hrel.out.2.1, by simpa [hgd] using Hrel.out.2.2.1, Hrel.out.2.2.2⟩
   case rest =>
    clear hR zG zP zI zL hw hkeep cI lI cP lP HP1 hGr
    obtain ⟨vi, vl, hR, zG, zP, hw⟩ := hcut
    have zI := U2.out.below hw (by omega)
    have zV := V1.out.below hw (by omega)
    have cI := zI.cell 0
    have lI := zI.lt
    by_cases hne : n = id
    ·have heb : (n != id) = false := by simpa using hne
     have Hst : Hid (wOut id l z (k + 1) = P1) := by show _ = _; rw [Hst0.out, if_neg (fun h => h hne), List.append_nil]
     clear hne Hst0 zV
     go_wp2_with fail
     go_roundw
     case rel => exact ⟨k + 1, _, _, by go_num, by go_light; omega, by rw [Hst.out]; exact hR, zG, by rw [Hpt.out]; exact zP, hw⟩
     case measure => go_light; simp [intOf]; omega
    ·--[PU
     have heb : (n != id) = true := by simpa using hne
     have Hst : Hid (wOut id l z (k + 1) = P1 ++ [(n, ValueD.mk xk xn xs xi xl)]) := by show _ = _; rw [Hst0.out, if_pos hne]
     have HlG := Lib.hid hlG
     clear hne Hst0 zI hSi hSl
     go_wp2_with fail
     clear cI lI
     have HSK : Hid (∀ W', Box W' (w1.heap.size + 1) 28 [.int .i64 2, .int .i64 0, .string ⟨#[]⟩, vi, vl] → Box W' w1.heap.size 28 [.int .i64 2, .int .i64 0, .string ⟨#[]⟩, .slice (some ⟨ig, io, none⟩) z.length d1, .slice (some ⟨lg, lo, none⟩) z.length d2] → Below (w1.heap.size + 1) W0 W' → (fun W' => (W'.cell? ⟨(w1.heap.size + 1), 3, none⟩ = some vi ∧ W'.cell? ⟨(w1.heap.size + 1), 4, none⟩ = some vl) ∧ W'.cell? ⟨w1.heap.size, 4, none⟩ = some (.slice (some ⟨lg, lo, none⟩) z.length d2) ∧ (W'.cell? ⟨lg, lo + k * 5, none⟩ = some (.int .i64 xk) ∧ W'.cell? ⟨lg, lo + k * 5 + 1, none⟩ = some (.int .i64 xn) ∧ W'.cell? ⟨lg, lo + k * 5 + 2, none⟩ = some (.string xs) ∧ W'.cell? ⟨lg, lo + k * 5 + 3, none⟩ = some (.slice E1 xi.length f1) ∧ W'.cell? ⟨lg, lo + k * 5 + 4, none⟩ = some (.slice E2 xl.length f2))) W') :=
      fun W' h1 h2 h3 => ⟨⟨h1.cell 3, h1.cell 4⟩, h2.cell 4, by
       have hc := HLs.out.keep (keep_below h3 h3.size) HlG.out
       exact ⟨hc.at_ 0 rfl, hc.at_ 1 rfl, hc.at_ 2 rfl, hc.at_ 3 rfl, hc.at_ 4 rfl⟩⟩
     replace hR := hR.drew
     replace zG := zG.drew
     replace zP := zP.drew
     replace zV := zV.drew
     replace hw := below_drew hw
     have hS := trivial
     replace hS := HSK.out _ zG zV hw
     refine late_start (fun W' => (W'.cell? ⟨(w1.heap.size + 1), 3, none⟩ = some vi ∧ W'.cell? ⟨(w1.heap.size + 1), 4, none⟩ = some vl) ∧ W'.cell? ⟨w1.heap.size, 4, none⟩ = some (.slice (some ⟨lg, lo, none⟩) z.length d2) ∧ (W'.cell? ⟨lg, lo + k * 5, none⟩ = some (.int .i64 xk) ∧ W'.cell? ⟨lg, lo + k * 5 + 1, none⟩ = some (.int .i64 xn) ∧ W'.cell? ⟨lg, lo + k * 5 + 2, none⟩ = some (.string xs) ∧ W'.cell? ⟨lg, lo + k * 5 + 3, none⟩ = some (.slice E1 xi.length f1) ∧ W'.cell? ⟨lg, lo + k * 5 + 4, none⟩ = some (.slice E2 xl.length f2))) 15 (by kernel_rfl) ?_
     refine tkL 0 hS ?_
     try simp only [pu]
     refine tkL 1 hS ?_
     try simp only [pu]
     refine tkL 2 hS ?_
     try simp only [pu]
     refine tkL 5 hS ?_
     try simp only [pu]
     refine tkL 6 hS ?_
     try simp only [pu]
     refine tkL 7 hS ?_
     try simp only [pu]
     refine tkL 8 hS ?_
     try simp only [pu]
     refine tkL 9 hS ?_
     try simp only [pu]
     refine tkL 10 hS ?_
     try simp only [pu]
     refine tkL 11 hS ?_
     try simp only [pu]
     refine late_two (i := 3) (j := 12) rfl rfl (by kernel_rfl) (fun K hK => ?_) (fun K hK => ?_)
     ·go_simp
      have hZ1 := Box.newB hw 3 [.int .i64 n]
      try simp only [World.size_alloc] at hZ1
      replace hR := hR.alloc (.cells #[.int .i64 n] 3)
      replace zG := zG.alloc (.cells #[.int .i64 n] 3)
      replace zP := zP.alloc (.cells #[.int .i64 n] 3)
      replace zV := zV.alloc (.cells #[.int .i64 n] 3)
      (first | (replace hZ2 := hZ2.alloc (.cells #[.int .i64 n] 3)) | skip)
      replace hw := hw.alloc (Nat.le_trans hG0 hw.size) (.cells #[.int .i64 n] 3)
      replace hS := HSK.out _ zG zV hw
      refine hK.out _ _ (fun _ => hS) ?_
      clear hK K
      try simp only [pu]
      refine late_two (i := 4) (j := 12) rfl rfl (by kernel_rfl) (fun K hK => ?_) (fun K hK => ?_)
      ·refine step_append _ rfl (.tmp 45) (.tmp 47) rfl sl_ints RInt.fair rfl rfl hR.ids (Src.one (es := [.int .i64 n]) (y := n) rfl (Ones.of_all rfl) rfl hZ1.lies) (NoT.lt _) (by go_light; simp; omega) hR.hb ?_
       intro v1 wk1 ho1 hg1 hv1
       have hR' := hR.push_id ho1 hg1 hv1
       replace zG := zG.grownR hR.ids (by first | exact .inl (by go_light; omega) | exact .inr (by decide)) hg1
       replace zP := zP.grownR hR.ids (by first | exact .inl (by go_light; omega) | exact .inr (by decide)) hg1
       replace zV := zV.grownR hR.ids (by first | exact .inl (by go_light; omega) | exact .inr (by decide)) hg1
       (first | (replace hZ2 := hZ2.grownR hR.ids (.inr (by decide)) hg1) | skip)
       replace hw := below_grown hw hg1 (Nat.le_trans hG0 hw.size) (fun g' h => by go_light; have := (hR.ilt h).1; omega)
       replace hR := hR'
       clear hR'
       replace hS := HSK.out _ zG zV hw
       refine hK.out _ _ (fun _ => hS) ?_
       clear hK K
       try simp only [pu]
       refine tkL 14 hS ?_
       try simp only [pu]
       refine late_one (i := 12) rfl (by kernel_rfl) (fun K hK => ?_)
       go_simp
       have hZ2 := Box.newB hw 28 [.int .i64 xk, .int .i64 xn, .string xs, .slice E1 xi.length f1, .slice E2 xl.length f2]
       try simp only [World.size_alloc] at hZ2
       replace hR := hR.alloc (.cells [.int .i64 xk, .int .i64 xn, .string xs, .slice E1 xi.length f1, .slice E2 xl.length f2].toArray 28)
       replace zG := zG.alloc (.cells [.int .i64 xk, .int .i64 xn, .string xs, .slice E1 xi.length f1, .slice E2 xl.length f2].toArray 28)
       replace zP := zP.alloc (.cells [.int .i64 xk, .int .i64 xn, .string xs, .slice E1 xi.length f1, .slice E2 xl.length f2].toArray 28)
       replace zV := zV.alloc (.cells [.int .i64 xk, .int .i64 xn, .string xs, .slice E1 xi.length f1, .slice E2 xl.length f2].toArray 28)
       (first | (replace hZ1 := hZ1.alloc (.cells [.int .i64 xk, .int .i64 xn, .string xs, .slice E1 xi.length f1, .slice E2 xl.length f2].toArray 28)) | skip)
       replace hw := hw.alloc (Nat.le_trans hG0 hw.size) (.cells [.int .i64 xk, .int .i64 xn, .string xs, .slice E1 xi.length f1, .slice E2 xl.length f2].toArray 28)
       replace hS := HSK.out _ zG zV hw
       refine hK.out _ _ (fun _ => hS) ?_
       clear hK K
       try simp only [pu]
       refine late_one (i := 13) rfl (by kernel_rfl) (fun K hK => ?_)
       refine step_append _ rfl (.tmp 50) (.tmp 56) rfl sl_vals RVal.fair rfl rfl hR.lrow (Src.one (es := [.int .i64 xk, .int .i64 xn, .string xs, .slice E1 xi.length f1, .slice E2 xl.length f2]) (y := ValueD.mk xk xn xs xi xl) rfl (Ones.of_all rfl) (hR.apart (RVal.fair.keep HXr.out ((keep_below hw hw.size).mono (fun y hy => by go_light; have := hy.2; omega))) (fun y hy _ => ⟨.inr ⟨by go_light; have := hy.2; omega, by go_light; have := hy.2; omega⟩, .inr (.inl hy)⟩)) hZ2.lies) (fun _ h => h.2) (by go_light; simp; omega) hR.hb ?_
       intro v5 w5 ho5 hg5 hv5
       have hR' := hR.push_l ho5 hg5 hv5
       replace zG := zG.grownR hR.l (by first | exact .inl (by go_light; omega) | exact .inr (by decide)) hg5
       replace zP := zP.grownR hR.l (by first | exact .inl (by go_light; omega) | exact .inr (by decide)) hg5
       replace zV := zV.grownR hR.l (by first | exact .inl (by go_light; omega) | exact .inr (by decide)) hg5
       replace hw := below_grown hw hg5 (Nat.le_trans hG0 hw.size) (fun g' h => by go_light; have := (hR.llt h).1; omega)
       replace hR := hR'
       clear hR'
       replace hS := HSK.out _ zG zV hw
       have fz3 := zG.frozen 3
       have cz3 := zG.cell 3
       have fz4 := zG.frozen 4
       have cz4 := zG.cell 4
       have lz := zG.lt
       simp only [List.getElem?_cons_zero, List.getElem?_cons_succ] at cz3 cz4
       obtain ⟨R1, p1, rfl, _⟩ := hR.ids.form
       obtain ⟨R2, p2, rfl, _⟩ := hR.l.form
       refine hK.out _ _ (fun _ => hS) ?_
       clear hK K
       try simp only [pu]
       refine late_one (i := 15) rfl (by kernel_rfl) (fun K hK => ?_)
       go_simp
       refine hK.out _ _ (fun h => absurd h (by decide)) ?_
       clear hK K
       try simp only [pu]
       refine late_one (i := 16) rfl (by kernel_rfl) (fun K hK => ?_)
       go_simp
       refine hK.out _ _ (fun h => absurd h (by decide)) ?_
       clear hK K
       try simp only [pu]
       refine late_one (i := 17) rfl (by kernel_rfl) (fun K hK => ?_)
       go_simp
       refine hK.out _ _ (fun h => absurd h (by decide)) ?_
       clear hK K
       try simp only [pu]
       refine late_done (by kernel_rfl) ?_ _
       simp only [List.length_append, List.length_map, List.length_cons, List.length_nil, Nat.zero_add] at hR
       replace hR := (hR.setCell 3 (.slice R1 (P1.length + 1) p1)).setCell 4 (.slice R2 (P1.length + 1) p2)
       replace zG := (zG.set_ 3 (.slice R1 (P1.length + 1) p1)).set_ 4 (.slice R2 (P1.length + 1) p2)
       simp only [List.set_cons_zero, List.set_cons_succ, List.length_append, List.length_map, List.length_cons, List.length_nil, Nat.zero_add] at zG
       replace zP := zP.far (p := ⟨(w1.heap.size + 1), 3, none⟩) (by first | (simp; done) | (simp; omega)) (.slice R1 (P1.length + 1) p1)
       replace zV := zV.far (p := ⟨(w1.heap.size + 1), 3, none⟩) (by first | (simp; done) | (simp; omega)) (.slice R1 (P1.length + 1) p1)
       replace zP := zP.far (p := ⟨(w1.heap.size + 1), 4, none⟩) (by first | (simp; done) | (simp; omega)) (.slice R2 (P1.length + 1) p2)
       replace zV := zV.far (p := ⟨(w1.heap.size + 1), 4, none⟩) (by first | (simp; done) | (simp; omega)) (.slice R2 (P1.length + 1) p2)
       replace hw := (hw.setCell (p := ⟨(w1.heap.size + 1), 3, none⟩) (by first | (simp; done) | (simp; omega)) (.slice R1 (P1.length + 1) p1)).setCell (p := ⟨(w1.heap.size + 1), 4, none⟩) (by first | (simp; done) | (simp; omega)) (.slice R2 (P1.length + 1) p2)
       clear hS fz3 cz3 fz4 cz4 lz hg5 hv5 ho5 hg1 hv1 ho1
       go_wp2_with fail
       go_roundw
       case rel => exact ⟨k + 1, _, _, by go_num, by go_light; omega, by rw [Hst.out]; simpa using hR, zG, by rw [Hpt.out]; exact zP, hw⟩
       case measure => go_light; simp [intOf]; omega
      ·go_simp
       have hZ2 := Box.newB hw 28 [.int .i64 xk, .int .i64 xn, .string xs, .slice E1 xi.length f1, .slice E2 xl.length f2]
       try simp only [World.size_alloc] at hZ2
       replace hR := hR.alloc (.cells [.int .i64 xk, .int .i64 xn, .string xs, .slice E1 xi.length f1, .slice E2 xl.length f2].toArray 28)
       replace zG := zG.alloc (.cells [.int .i64 xk, .int .i64 xn, .string xs, .slice E1 xi.length f1, .slice E2 xl.length f2].toArray 28)
       replace zP := zP.alloc (.cells [.int .i64 xk, .int .i64 xn, .string xs, .slice E1 xi.length f1, .slice E2 xl.length f2].toArray 28)
       replace zV := zV.alloc (.cells [.int .i64 xk, .int .i64 xn, .string xs, .slice E1 xi.length f1, .slice E2 xl.length f2].toArray 28)
       (first | (replace hZ1 := hZ1.alloc (.cells [.int .i64 xk, .int .i64 xn, .string xs, .slice E1 xi.length f1, .slice E2 xl.length f2].toArray 28)) | skip)
       replace hw := hw.alloc (Nat.le_trans hG0 hw.size) (.cells [.int .i64 xk, .int .i64 xn, .string xs, .slice E1 xi.length f1, .slice E2 xl.length f2].toArray 28)
       replace hS := HSK.out _ zG zV hw
       refine hK.out _ _ (fun _ => hS) ?_
       clear hK K
       try simp only [pu]
       refine late_one (i := 4) rfl (by kernel_rfl) (fun K hK => ?_)
       refine step_append _ rfl (.tmp 45) (.tmp 47) rfl sl_ints RInt.fair rfl rfl hR.ids (Src.one (es := [.int .i64 n]) (y := n) rfl (Ones.of_all rfl) rfl hZ1.lies) (NoT.lt _) (by go_light; simp; omega) hR.hb ?_
       intro v1 wk1 ho1 hg1 hv1
       have hR' := hR.push_id ho1 hg1 hv1
       replace zG := zG.grownR hR.ids (by first | exact .inl (by go_light; omega) | exact .inr (by decide)) hg1
       replace zP := zP.grownR hR.ids (by first | exact .inl (by go_light; omega) | exact .inr (by decide)) hg1
       replace zV := zV.grownR hR.ids (by first | exact .inl (by go_light; omega) | exact .inr (by decide)) hg1
       (first | (replace hZ2 := hZ2.grownR hR.ids (.inr (by decide)) hg1) | skip)
       replace hw := below_grown hw hg1 (Nat.le_trans hG0 hw.size) (fun g' h => by go_light; have := (hR.ilt h).1; omega)
       replace hR := hR'
       clear hR'
       replace hS := HSK.out _ zG zV hw
       refine hK.out _ _ (fun _ => hS) ?_
       clear hK K
       try simp only [pu]
       refine tkL 14 hS ?_
       try simp only [pu]
       refine late_one (i := 13) rfl (by kernel_rfl) (fun K hK => ?_)
       refine step_append _ rfl (.tmp 50) (.tmp 56) rfl sl_vals RVal.fair rfl rfl hR.lrow (Src.one (es := [.int .i64 xk, .int .i64 xn, .string xs, .slice E1 xi.length f1, .slice E2 xl.length f2]) (y := ValueD.mk xk xn xs xi xl) rfl (Ones.of_all rfl) (hR.apart (RVal.fair.keep HXr.out ((keep_below hw hw.size).mono (fun y hy => by go_light; have := hy.2; omega))) (fun y hy _ => ⟨.inr ⟨by go_light; have := hy.2; omega, by go_light; have := hy.2; omega⟩, .inr (.inl hy)⟩)) hZ2.lies) (fun _ h => h.2) (by go_light; simp; omega) hR.hb ?_
       intro v5 w5 ho5 hg5 hv5
       have hR' := hR.push_l ho5 hg5 hv5
       replace zG := zG.grownR hR.l (by first | exact .inl (by go_light; omega) | exact .inr (by decide)) hg5
       replace zP := zP.grownR hR.l (by first | exact .inl (by go_light; omega) | exact .inr (by decide)) hg5
       replace zV := zV.grownR hR.l (by first | exact .inl (by go_light; omega) | exact .inr (by decide)) hg5
       replace hw := below_grown hw hg5 (Nat.le_trans hG0 hw.size) (fun g' h => by go_light; have := (hR.llt h).1; omega)
       replace hR := hR'
       clear hR'
       replace hS := HSK.out _ zG zV hw
       have fz3 := zG.frozen 3
       have cz3 := zG.cell 3
       have fz4 := zG.frozen 4
       have cz4 := zG.cell 4
       have lz := zG.lt
       simp only [List.getElem?_cons_zero, List.getElem?_cons_succ] at cz3 cz4
       obtain ⟨R1, p1, rfl, _⟩ := hR.ids.form
       obtain ⟨R2, p2, rfl, _⟩ := hR.l.form
       refine hK.out _ _ (fun _ => hS) ?_
       clear hK K
       try simp only [pu]
       refine late_one (i := 15) rfl (by kernel_rfl) (fun K hK => ?_)
       go_simp
       refine hK.out _ _ (fun h => absurd h (by decide)) ?_
       clear hK K
       try simp only [pu]
       refine late_one (i := 16) rfl (by kernel_rfl) (fun K hK => ?_)
       go_simp
       refine hK.out _ _ (fun h => absurd h (by decide)) ?_
       clear hK K
       try simp only [pu]
       refine late_one (i := 17) rfl (by kernel_rfl) (fun K hK => ?_)
       go_simp
       refine hK.out _ _ (fun h => absurd h (by decide)) ?_
       clear hK K
       try simp only [pu]
       refine late_done (by kernel_rfl) ?_ _
       simp only [List.length_append, List.length_map, List.length_cons, List.length_nil, Nat.zero_add] at hR
       replace hR := (hR.setCell 3 (.slice R1 (P1.length + 1) p1)).setCell 4 (.slice R2 (P1.length + 1) p2)
       replace zG := (zG.set_ 3 (.slice R1 (P1.length + 1) p1)).set_ 4 (.slice R2 (P1.length + 1) p2)
       simp only [List.set_cons_zero, List.set_cons_succ, List.length_append, List.length_map, List.length_cons, List.length_nil, Nat.zero_add] at zG
       replace zP := zP.far (p := ⟨(w1.heap.size + 1), 3, none⟩) (by first | (simp; done) | (simp; omega)) (.slice R1 (P1.length + 1) p1)
       replace zV := zV.far (p := ⟨(w1.heap.size + 1), 3, none⟩) (by first | (simp; done) | (simp; omega)) (.slice R1 (P1.length + 1) p1)
       replace zP := zP.far (p := ⟨(w1.heap.size + 1), 4, none⟩) (by first | (simp; done) | (simp; omega)) (.slice R2 (P1.length + 1) p2)
       replace zV := zV.far (p := ⟨(w1.heap.size + 1), 4, none⟩) (by first | (simp; done) | (simp; omega)) (.slice R2 (P1.length + 1) p2)
       replace hw := (hw.setCell (p := ⟨(w1.heap.size + 1), 3, none⟩) (by first | (simp; done) | (simp; omega)) (.slice R1 (P1.length + 1) p1)).setCell (p := ⟨(w1.heap.size + 1), 4, none⟩) (by first | (simp; done) | (simp; omega)) (.slice R2 (P1.length + 1) p2)
       clear hS fz3 cz3 fz4 cz4 lz hg5 hv5 ho5 hg1 hv1 ho1
       go_wp2_with fail
       go_roundw
       case rel => exact ⟨k + 1, _, _, by go_num, by go_light; omega, by rw [Hst.out]; simpa using hR, zG, by rw [Hpt.out]; exact zP, hw⟩
       case measure => go_light; simp [intOf]; omega
     ·go_simp
      have hZ2 := Box.newB hw 28 [.int .i64 xk, .int .i64 xn, .string xs, .slice E1 xi.length f1, .slice E2 xl.length f2]
      try simp only [World.size_alloc] at hZ2
      replace hR := hR.alloc (.cells [.int .i64 xk, .int .i64 xn, .string xs, .slice E1 xi.length f1, .slice E2 xl.length f2].toArray 28)
      replace zG := zG.alloc (.cells [.int .i64 xk, .int .i64 xn, .string xs, .slice E1 xi.length f1, .slice E2 xl.length f2].toArray 28)
      replace zP := zP.alloc (.cells [.int .i64 xk, .int .i64 xn, .string xs, .slice E1 xi.length f1, .slice E2 xl.length f2].toArray 28)
      replace zV := zV.alloc (.cells [.int .i64 xk, .int .i64 xn, .string xs, .slice E1 xi.length f1, .slice E2 xl.length f2].toArray 28)
      (first | (replace hZ1 := hZ1.alloc (.cells [.int .i64 xk, .int .i64 xn, .string xs, .slice E1 xi.length f1, .slice E2 xl.length f2].toArray 28)) | skip)
      replace hw := hw.alloc (Nat.le_trans hG0 hw.size) (.cells [.int .i64 xk, .int .i64 xn, .string xs, .slice E1 xi.length f1, .slice E2 xl.length f2].toArray 28)
      replace hS := HSK.out _ zG zV hw
      refine hK.out _ _ (fun _ => hS) ?_
      clear hK K
      try simp only [pu]
      refine late_one (i := 3) rfl (by kernel_rfl) (fun K hK => ?_)
      go_simp
      have hZ1 := Box.newB hw 3 [.int .i64 n]
      try simp only [World.size_alloc] at hZ1
      replace hR := hR.alloc (.cells #[.int .i64 n] 3)
      replace zG := zG.alloc (.cells #[.int .i64 n] 3)
      replace zP := zP.alloc (.cells #[.int .i64 n] 3)
      replace zV := zV.alloc (.cells #[.int .i64 n] 3)
      (first | (replace hZ2 := hZ2.alloc (.cells #[.int .i64 n] 3)) | skip)
      replace hw := hw.alloc (Nat.le_trans hG0 hw.size) (.cells #[.int .i64 n] 3)
      replace hS := HSK.out _ zG zV hw
      refine hK.out _ _ (fun _ => hS) ?_
      clear hK K
      try simp only [pu]
      refine late_one (i := 4) rfl (by kernel_rfl) (fun K hK => ?_)
      refine step_append _ rfl (.tmp 45) (.tmp 47) rfl sl_ints RInt.fair rfl rfl hR.ids (Src.one (es := [.int .i64 n]) (y := n) rfl (Ones.of_all rfl) rfl hZ1.lies) (NoT.lt _) (by go_light; simp; omega) hR.hb ?_
      intro v1 wk1 ho1 hg1 hv1
      have hR' := hR.push_id ho1 hg1 hv1
      replace zG := zG.grownR hR.ids (by first | exact .inl (by go_light; omega) | exact .inr (by decide)) hg1
      replace zP := zP.grownR hR.ids (by first | exact .inl (by go_light; omega) | exact .inr (by decide)) hg1
      replace zV := zV.grownR hR.ids (by first | exact .inl (by go_light; omega) | exact .inr (by decide)) hg1
      (first | (replace hZ2 := hZ2.grownR hR.ids (.inr (by decide)) hg1) | skip)
      replace hw := below_grown hw hg1 (Nat.le_trans hG0 hw.size) (fun g' h => by go_light; have := (hR.ilt h).1; omega)
      replace hR := hR'
      clear hR'
      replace hS := HSK.out _ zG zV hw
      refine hK.out _ _ (fun _ => hS) ?_
      clear hK K
      try simp only [pu]
      refine tkL 14 hS ?_
      try simp only [pu]
      refine late_one (i := 13) rfl (by kernel_rfl) (fun K hK => ?_)
      refine step_append _ rfl (.tmp 50) (.tmp 56) rfl sl_vals RVal.fair rfl rfl hR.lrow (Src.one (es := [.int .i64 xk, .int .i64 xn, .string xs, .slice E1 xi.length f1, .slice E2 xl.length f2]) (y := ValueD.mk xk xn xs xi xl) rfl (Ones.of_all rfl) (hR.apart (RVal.fair.keep HXr.out ((keep_below hw hw.size).mono (fun y hy => by go_light; have := hy.2; omega))) (fun y hy _ => ⟨.inr ⟨by go_light; have := hy.2; omega, by go_light; have := hy.2; omega⟩, .inr (.inl hy)⟩)) hZ2.lies) (fun _ h => h.2) (by go_light; simp; omega) hR.hb ?_
      intro v5 w5 ho5 hg5 hv5
      have hR' := hR.push_l ho5 hg5 hv5
      replace zG := zG.grownR hR.l (by first | exact .inl (by go_light; omega) | exact .inr (by decide)) hg5
      replace zP := zP.grownR hR.l (by first | exact .inl (by go_light; omega) | exact .inr (by decide)) hg5
      replace zV := zV.grownR hR.l (by first | exact .inl (by go_light; omega) | exact .inr (by decide)) hg5
      replace hw := below_grown hw hg5 (Nat.le_trans hG0 hw.size) (fun g' h => by go_light; have := (hR.llt h).1; omega)
      replace hR := hR'
      clear hR'
      replace hS := HSK.out _ zG zV hw
      have fz3 := zG.frozen 3
      have cz3 := zG.cell 3
      have fz4 := zG.frozen 4
      have cz4 := zG.cell 4
      have lz := zG.lt
      simp only [List.getElem?_cons_zero, List.getElem?_cons_succ] at cz3 cz4
      obtain ⟨R1, p1, rfl, _⟩ := hR.ids.form
      obtain ⟨R2, p2, rfl, _⟩ := hR.l.form
      refine hK.out _ _ (fun _ => hS) ?_
      clear hK K
      try simp only [pu]
      refine late_one (i := 15) rfl (by kernel_rfl) (fun K hK => ?_)
      go_simp
      refine hK.out _ _ (fun h => absurd h (by decide)) ?_
      clear hK K
      try simp only [pu]
      refine late_one (i := 16) rfl (by kernel_rfl) (fun K hK => ?_)
      go_simp
      refine hK.out _ _ (fun h => absurd h (by decide)) ?_
      clear hK K
      try simp only [pu]
      refine late_one (i := 17) rfl (by kernel_rfl) (fun K hK => ?_)
      go_simp
      refine hK.out _ _ (fun h => absurd h (by decide)) ?_
      clear hK K
      try simp only [pu]
      refine late_done (by kernel_rfl) ?_ _
      simp only [List.length_append, List.length_map, List.length_cons, List.length_nil, Nat.zero_add] at hR
      replace hR := (hR.setCell 3 (.slice R1 (P1.length + 1) p1)).setCell 4 (.slice R2 (P1.length + 1) p2)
      replace zG := (zG.set_ 3 (.slice R1 (P1.length + 1) p1)).set_ 4 (.slice R2 (P1.length + 1) p2)
      simp only [List.set_cons_zero, List.set_cons_succ, List.length_append, List.length_map, List.length_cons, List.length_nil, Nat.zero_add] at zG
      replace zP := zP.far (p := ⟨(w1.heap.size + 1), 3, none⟩) (by first | (simp; done) | (simp; omega)) (.slice R1 (P1.length + 1) p1)
      replace zV := zV.far (p := ⟨(w1.heap.size + 1), 3, none⟩) (by first | (simp; done) | (simp; omega)) (.slice R1 (P1.length + 1) p1)
      replace zP := zP.far (p := ⟨(w1.heap.size + 1), 4, none⟩) (by first | (simp; done) | (simp; omega)) (.slice R2 (P1.length + 1) p2)
      replace zV := zV.far (p := ⟨(w1.heap.size + 1), 4, none⟩) (by first | (simp; done) | (simp; omega)) (.slice R2 (P1.length + 1) p2)
      replace hw := (hw.setCell (p := ⟨(w1.heap.size + 1), 3, none⟩) (by first | (simp; done) | (simp; omega)) (.slice R1 (P1.length + 1) p1)).setCell (p := ⟨(w1.heap.size + 1), 4, none⟩) (by first | (simp; done) | (simp; omega)) (.slice R2 (P1.length + 1) p2)
      clear hS fz3 cz3 fz4 cz4 lz hg5 hv5 ho5 hg1 hv1 ho1
      go_wp2_with fail
      go_roundw
      case rel => exact ⟨k + 1, _, _, by go_num, by go_light; omega, by rw [Hst.out]; simpa using hR, zG, by rw [Hpt.out]; exact zP, hw⟩
      case measure => go_light; simp [intOf]; omega
  ·skip
   obtain rfl : k = z.length := by omega
   have hall := wOut_all id l z
   have hlen := wOut_len id l z z.length
   obtain ⟨P0, hP0⟩ : ∃ P, P = wOut id l z z.length := ⟨_, rfl⟩
   obtain ⟨put, hput⟩ : ∃ p, p = wPut id z z.length := ⟨_, rfl⟩
   rw [← hP0] at hR hlen hall
   rw [← hput] at zP hall
   have zI := U2.out.below hw (by omega)
   have zL := U3.out.below hw (by omega)
   have hkeep := keep_below hw hw.size
   have cP := zP.cell 0
   have lP := zP.lt
   cases put with
   | false =>
    rw [if_pos rfl] at hall
    have hcall := Lib.hid (with1_any (fun y => (SL y ∧ y < w.heap.size) ∨ (w.heap.size + 1 + 1 + 1 + 1 ≤ y ∧ y < w1.heap.size) ∨ w1.heap.size + 1 + 1 + 1 ≤ y) (fun y => SL y ∧ y < w.heap.size) (w1.heap.size + 1 + 1 + 1) (w1.heap.size + 1) (w.heap.size + 1 + 1) (w.heap.size + 1) (w1.heap.size + 1 + 1) A cap id l (P0.map (·.2)) (P0.map (·.1)) vi vl wr hR zG zL zI zP ((RSl.fair RVal.fair).keep HL0.out (hkeep.mono (fun y hy => by have := hy.2; omega)))
     (fun y hy _ => by have := hy.2; exact ⟨by omega, .inl hy⟩) (by omega) (by omega) (by omega) (by omega) (by rintro (h | h | h) <;> omega) (by rw [List.length_map]; omega) (by rw [List.length_map]; omega) (by omega))
    have Hw := Lib.hid hw
    have Hall := Lib.hid hall
    clear hR zG zP zI zL hw hkeep hall hP0 hput
    go_wp2_with fail
    refine hcall.out.mono ?_
    rintro e w5 ⟨vi', vl', rfl, hR', zG, -, hb'⟩
    have hw := Hw.out.trans hb'
    have hR : Rows2 (fun y => (SL y ∧ y < w.heap.size) ∨ (w.heap.size + 1 + 1 + 1 + 1 ≤ y ∧ y < w1.heap.size) ∨ w1.heap.size + 1 + 1 + 1 ≤ y) (w1.heap.size + 1 + 1 + 1) w5 (w1.heap.size + 1) vi' vl' ((withZ id l z).map (·.1)) ((withZ id l z).map (·.2)) := by
     rw [← Hall.out, List.map_append, List.map_append, List.map_map, List.map_map]
     have e2 : l.map ((fun p : Int × ValueD => p.2) ∘ fun x => (id, x)) = l := by simp [Function.comp_def]
     rw [e2]
     exact hR'
    have hlw : (withZ id l z).length ≤ 1100 := by rw [← Hall.out, List.length_append, List.length_map]; omega
    clear hR' hb' hcall Hw Hall cP lP
    obtain ⟨R1, p1, rfl, _⟩ := hR.ids.form
    obtain ⟨R2, p2, rfl, _⟩ := hR.l.form
    have hrd : RVal (fun y => (fun y => (SL y ∧ y < w.heap.size) ∨ (w.heap.size + 1 + 1 + 1 + 1 ≤ y ∧ y < w1.heap.size) ∨ w1.heap.size + 1 + 1 + 1 ≤ y) y) w5 [.int .i64 2, .int .i64 0, .string ⟨#[]⟩, .slice R1 ((withZ id l z).map (·.1)).length p1, .slice R2 ((withZ id l z).map (·.2)).length p2] (msgV ((withZ id l z).map (·.1)) ((withZ id l z).map (·.2))) := hR.read (S := (fun y => (SL y ∧ y < w.heap.size) ∨ (w.heap.size + 1 + 1 + 1 + 1 ≤ y ∧ y < w1.heap.size) ∨ w1.heap.size + 1 + 1 + 1 ≤ y)) (fun y hy => .inr (.inr hy)) (fun y hy => hy) (by rw [List.length_map]; omega) (by rw [List.length_map]; omega) 2 0 ⟨#[]⟩
    generalize ((withZ id l z).map (·.1)).length = L1 at *
    generalize ((withZ id l z).map (·.2)).length = L2 at *
    have zR := U4.out.below hw (by omega)
    obtain ⟨e0, e1, e2, e3, e4⟩ := zG.five
    obtain ⟨r0, r1, r2, r3, r4⟩ := zR.five
    have hlg := zG.lt
    have g0 := zR.frozen 0
    have g1 := zR.frozen 1
    have g2 := zR.frozen 2
    have g3 := zR.frozen 3
    have g4 := zR.frozen 4
    have hlr := zR.lt
    have Hrd := Lib.hid hrd
    have hbW := hw0.trans (hw.mono (by omega))
    clear hrd hR zG
    go_wp2_with fail
    change bodyPost _ _ _ _ _ (setCells w5 (w.heap.size + 1 + 1 + 1) 0 [.int .i64 2, .int .i64 0, .string ⟨#[]⟩, .slice R1 L1 p1, .slice R2 L2 p2])
    have hb5 := zR.setCells [.int .i64 2, .int .i64 0, .string ⟨#[]⟩, .slice R1 L1 p1, .slice R2 L2 p2] rfl
    have hw5 := below_setCells (g := w.heap.size + 1 + 1 + 1) (by go_light; omega) [.int .i64 2, .int .i64 0, .string ⟨#[]⟩, .slice R1 L1 p1, .slice R2 L2 p2] 0 _ hbW
    have hrd2 := RVal.fair.mono (T := Un SL w) (RVal.fair.keep Hrd.out (Keep.setCells (g := w.heap.size + 1 + 1 + 1) (by rintro (h | h | h) <;> omega) [.int .i64 2, .int .i64 0, .string ⟨#[]⟩, .slice R1 L1 p1, .slice R2 L2 p2] 0 w5)) (fun y hy _ => hy.elim (fun h => .inl h.1) (fun h => .inr (by show w.heap.size ≤ y; omega)))
    generalize setCells w5 (w.heap.size + 1 + 1 + 1) 0 _ = W at hb5 hw5 hrd2 ⊢
    exact bodyPost_ret (with_results hb5 rfl) rfl ⟨_, rfl, hrd2, hw5⟩
   | true =>
    rw [if_neg (by decide)] at hall
    rw [hall] at hR
    have hlw : (withZ id l z).length ≤ 1100 := by rw [← hall]; omega
    clear zI zL hkeep hall hP0 hput
    obtain ⟨R1, p1, rfl, _⟩ := hR.ids.form
    obtain ⟨R2, p2, rfl, _⟩ := hR.l.form
    have hrd : RVal (fun y => (fun y => (SL y ∧ y < w.heap.size) ∨ (w.heap.size + 1 + 1 + 1 + 1 ≤ y ∧ y < w1.heap.size) ∨ w1.heap.size + 1 + 1 + 1 ≤ y) y) wr [.int .i64 2, .int .i64 0, .string ⟨#[]⟩, .slice R1 ((withZ id l z).map (·.1)).length p1, .slice R2 ((withZ id l z).map (·.2)).length p2] (msgV ((withZ id l z).map (·.1)) ((withZ id l z).map (·.2))) := hR.read (S := (fun y => (SL y ∧ y < w.heap.size) ∨ (w.heap.size + 1 + 1 + 1 + 1 ≤ y ∧ y < w1.heap.size) ∨ w1.heap.size + 1 + 1 + 1 ≤ y)) (fun y hy => .inr (.inr hy)) (fun y hy => hy) (by rw [List.length_map]; omega) (by rw [List.length_map]; omega) 2 0 ⟨#[]⟩
    generalize ((withZ id l z).map (·.1)).length = L1 at *
    generalize ((withZ id l z).map (·.2)).length = L2 at *
    have zR := U4.out.below hw (by omega)
    obtain ⟨e0, e1, e2, e3, e4⟩ := zG.five
    obtain ⟨r0, r1, r2, r3, r4⟩ := zR.five
    have hlg := zG.lt
    have g0 := zR.frozen 0
    have g1 := zR.frozen 1
    have g2 := zR.frozen 2
    have g3 := zR.frozen 3
    have g4 := zR.frozen 4
    have hlr := zR.lt
    have Hrd := Lib.hid hrd
    have hbW := hw0.trans (hw.mono (by omega))
    clear hrd hR zG
    go_wp2_with fail
    change bodyPost _ _ _ _ _ (setCells wr (w.heap.size + 1 + 1 + 1) 0 [.int .i64 2, .int .i64 0, .string ⟨#[]⟩, .slice R1 L1 p1, .slice R2 L2 p2])
    have hb5 := zR.setCells [.int .i64 2, .int .i64 0, .string ⟨#[]⟩, .slice R1 L1 p1, .slice R2 L2 p2] rfl
    have hw5 := below_setCells (g := w.heap.size + 1 + 1 + 1) (by go_light; omega) [.int .i64 2, .int .i64 0, .string ⟨#[]⟩, .slice R1 L1 p1, .slice R2 L2 p2] 0 _ hbW
    have hrd2 := RVal.fair.mono (T := Un SL w) (RVal.fair.keep Hrd.out (Keep.setCells (g := w.heap.size + 1 + 1 + 1) (by rintro (h | h | h) <;> omega) [.int .i64 2, .int .i64 0, .string ⟨#[]⟩, .slice R1 L1 p1, .slice R2 L2 p2] 0 wr)) (fun y hy _ => hy.elim (fun h => .inl h.1) (fun h => .inr (by show w.heap.size ≤ y; omega)))
    generalize setCells wr (w.heap.size + 1 + 1 + 1) 0 _ = W at hb5 hw5 hrd2 ⊢
    exact bodyPost_ret (with_results hb5 rfl) rfl ⟨_, rfl, hrd2, hw5⟩
end Go.Proofs.YtfidfakcbjoilaaDoor
