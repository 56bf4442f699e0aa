/- The walk of the document's own single. -/
import Derived.Test.YtfidfakcbjoilaaGreatDoorRefSize
import Derived.Test.YtfidfakcbjoilaaGreatDoorValueFits
import Derived.Test.YtfidfakcbjoilaaGreatDoorLates
import Derived.Lib.AtoiErrMem
set_option linter.all false
set_option maxRecDepth 100000
set_option maxHeartbeats 8000000
namespace Go.Proofs.YtfidfakcbjoilaaGreatDoor
open Go.RowKit
theorem oddR_iff (k n : Int) (s : ByteArray) (i : List Int) (l : List ValueD) : oddF (.mk k n s i l) = true ↔ (k ≠ 2 ∧ 0 < i.length + l.length) ∨ (k ≠ 0 ∧ n ≠ 0) ∨ (k ≠ 1 ∧ s.size ≠ 0) := by
 unfold oddF
 rw [decide_eq_true_iff]
 exact Iff.rfl
theorem size_ne {s : ByteArray} (h : s.size ≠ 0) : (s.toList == ([] : List UInt8)) = false ∧ s.toList.isEmpty = false := by
 cases hq : s.toList with
 | nil => exact absurd (by rw [ByteArray.toList_eq] at hq; exact congrArg List.length hq) h
 | cons a l => exact ⟨rfl, rfl⟩
theorem single_any (S S' : Nat → Prop) (vb : Value) (b : BookD) (f : FieldD) (cs : List Value) (v : ValueD) (w : World) (hb0 : RSl 5 96 RType S w [vb] b) (hr : RVal S' w cs v) (ho : v.s.size ≤ 140737488351232) (hk0 : 0 ≤ f.kind) (hk5 : f.kind ≤ 5) :
  Calls Tryz.prog 87 #[.agg #[vb], .agg (fieldCells f).toArray, .agg cs.toArray] w (Ret w (.int .i64 (fitsF b f v))) := by
 obtain ⟨A, cap, rfl, hlc, hlb⟩ := hb0.form
 have HB := Lib.hid hb0
 obtain ⟨r, hre⟩ : ∃ r, r = fitsF b f v := ⟨_, rfl⟩
 rw [← hre]
 have Hre := Lib.hid hre
 obtain ⟨kind, n, s, ids, l⟩ := v
 obtain ⟨fid, fname, ftype, fkind, frule⟩ := f
 obtain ⟨I1, d1, I2, d2, rfl, hri, hrl⟩ := hr.parts
 obtain ⟨_, _, _, hic, hib⟩ := hri.form
 obtain ⟨_, _, _, hllc, hllb⟩ := hrl.form
 dsimp only [ValueD.s] at hk0 hk5 ho
 have hno1 : kind ≠ kindOf fkind → r = 5 := fun h => hre.trans (fits_no1 h)
 have hno2 : kind = kindOf fkind → oddF (.mk kind n s ids l) = true → r = 1 := fun h ho => hre.trans (fits_no2 h ho)
 have Hno1 := Lib.hid hno1
 have Hno2 := Lib.hid hno2
 obtain ⟨x1, x2, x3, x4⟩ := boxes3 w [.slice A b.length cap] [.int .i64 fid, .string fname, .string ftype, .int .i64 fkind, .int .i64 frule] [.int .i64 kind, .int .i64 n, .string s, .slice I1 ids.length d1, .slice I2 l.length d2] 24 55 37
 clear hb0 hre hr hri hrl hno1 hno2
 unfold fieldCells
 go_enter Tryz.func87, Tryz.ntmps87
 go_wp2_with fail
 generalize ((w.alloc (.cells #[.slice A b.length cap] 24)).alloc (.cells #[.int .i64 fid, .string fname, .string ftype, .int .i64 fkind, .int .i64 frule] 55)).alloc (.cells #[.int .i64 kind, .int .i64 n, .string s, .slice I1 ids.length d1, .slice I2 l.length d2] 37) = W0 at *
 have HSK := Lib.hid (fun (W' : World) (h : Box W' (w.heap.size + 1) 55 [.int .i64 fid, .string fname, .string ftype, .int .i64 fkind, .int .i64 frule]) (h2 : Box W' (w.heap.size + 1 + 1) 37 [.int .i64 kind, .int .i64 n, .string s, .slice I1 ids.length d1, .slice I2 l.length d2]) => (⟨h.cell 3, h2.cell 0⟩ : W'.cell? ⟨w.heap.size + 1, 3, none⟩ = some (.int .i64 fkind) ∧ W'.cell? ⟨w.heap.size + 1 + 1, 0, none⟩ = some (.int .i64 kind)))
 have hS := HSK.out W0.drew x2.drew x3.drew
 refine late_start (fun W' => W'.cell? ⟨w.heap.size + 1, 3, none⟩ = some (.int .i64 fkind) ∧ W'.cell? ⟨w.heap.size + 1 + 1, 0, none⟩ = some (.int .i64 kind)) 5 (by kernel_rfl) ?_
 refine tkL 0 hS ?_
 try simp only [pu]
 refine tkL 1 hS ?_
 try simp only [pu]
 refine tkL 2 hS ?_
 try simp only [pu]
 refine tkL 3 hS ?_
 try simp only [pu]
 refine late_one (i := 4) rfl (by kernel_rfl) (fun K hK => ?_)
 go_simp
 refine (wireKind_any fkind _ hk0 hk5).mono ?_
 rintro e w1 ⟨rfl, hb1⟩
 have y1 := x1.drew.below hb1 x1.lt
 have y2 := x2.drew.below hb1 x2.lt
 have y3 := x3.drew.below hb1 x3.lt
 have hw1 := below_via (below_drew x4) hb1 (below_drew x4).size
 have hS := HSK.out w1 y2 y3
 refine hK.out _ _ (fun _ => hS) ?_
 clear hK K
 try simp only [pu]
 refine late_one (i := 5) rfl (by kernel_rfl) (fun K hK => ?_)
 go_simp
 refine hK.out _ _ (fun h => absurd h (by decide)) ?_
 clear hK K
 try simp only [pu]
 refine late_done (by kernel_rfl) ?_ _
 have f2 : w1.cell? ⟨w.heap.size + 1, 2, none⟩ = some (.string ftype) := y2.cell 2
 have f3 : w1.cell? ⟨w.heap.size + 1, 3, none⟩ = some (.int .i64 fkind) := y2.cell 3
 have v0 : w1.cell? ⟨w.heap.size + 1 + 1, 0, none⟩ = some (.int .i64 kind) := y3.cell 0
 have v1 : w1.cell? ⟨w.heap.size + 1 + 1, 1, none⟩ = some (.int .i64 n) := y3.cell 1
 have v2 : w1.cell? ⟨w.heap.size + 1 + 1, 2, none⟩ = some (.string s) := y3.cell 2
 have v3 : w1.cell? ⟨w.heap.size + 1 + 1, 3, none⟩ = some (.slice I1 ids.length d1) := y3.cell 3
 have v4 : w1.cell? ⟨w.heap.size + 1 + 1, 4, none⟩ = some (.slice I2 l.length d2) := y3.cell 4
 have b0 : w1.cell? ⟨w.heap.size, 0, none⟩ = some (.slice A b.length cap) := y1.cell 0
 have z1 := y1.lt
 have z2 := y2.lt
 have z3 := y3.lt
 clear x1 x2 x3 x4 hb1 hS HSK
 by_cases hkk : kind = kindOf fkind
 ·have hkn : (kind != kindOf fkind) = false := by simp [hkk]
  have Hkk := Lib.hid hkk
  have Hodd := Lib.hid (oddR_iff kind n s ids l)
  have hk3 : kind = 0 ∨ kind = 1 ∨ kind = 2 := by rw [hkk]; unfold kindOf; split; (exact .inr (.inl rfl)); split; (exact .inr (.inr rfl)); exact .inl rfl
  have Hon := Lib.hid (fun h : oddF (.mk kind n s ids l) = false => Hre.out.trans (fits_on (b := b) (f := ⟨fid, fname, ftype, fkind, frule⟩) hkk h))
  have Hbd := Lib.hid (fun h : oddF (.mk kind n s ids l) = true => Hno2.out hkk h)
  clear hkk
  dsimp only [ValueD.n, ValueD.s] at Hon
  clear Hno1 Hno2 Hre
  rcases hk3 with rfl | rfl | rfl
  ·--[K0
   have hfk : fkind ≠ 3 ∧ fkind ≠ 5 := by
    have := Hkk.out
    unfold kindOf at this
    constructor
    ·intro h; rw [if_pos h] at this; cases this
    ·intro h; subst h; simp at this
   by_cases hs0 : s.size = 0
   ·have hse : s = ⟨#[]⟩ := ba_size0' hs0
    by_cases hi0 : ids.length = 0
    ·have ei : ((ids.length : Int) == 0) = true := by simp [hi0]
     by_cases hl0 : l.length = 0
     ·have el : ((l.length : Int) == 0) = true := by simp [hl0]
      have hof : oddF (.mk 0 n s ids l) = false := by
       cases hh : oddF (.mk 0 n s ids l) with
       | false => rfl
       | true => have := Hodd.out.1 hh; omega
      have Hv := Lib.hid (Hon.out hof)
      clear Hon Hbd hof hi0 hl0 hs0
      subst hse
      rw [if_neg hfk.1] at Hv
      obtain ⟨hf3, hf5⟩ := hfk
      rcases (show fkind = 0 ∨ fkind = 1 ∨ fkind = 2 ∨ fkind = 4 by omega) with rfl | rfl | rfl | rfl
      ·have Hno : Hid (r = 0) := by show r = 0; rw [Hv.out]; simp
       go_wp2_with fail
       refine (typeOf_any S _ b ftype _ ((RSl.fair RType.fair).below HB.out hw1)).mono ?_
       rintro e w2 ⟨cs2, rfl, hr2, hb2⟩
       obtain ⟨B1, l1, B2, l2, B3, l3, rfl, -, -, -⟩ := hr2.parts
       have hw2 := below_via hw1 hb2 hw1.size
       have u2 := y2.below hb2 y2.lt
       have u3 := y3.below hb2 y3.lt
       have g3 := u2.cell 3
       have g1 := u3.cell 1
       have gl2 := u2.lt
       have gl3 := u3.lt
       simp only [List.getElem?_cons_zero, List.getElem?_cons_succ] at g3 g1
       have Hr2 := Lib.hid hr2
       have HK2 := Lib.hid (fun o => RType.fair.keep hr2 (Keep.of_below (hb2.alloc hb2.size o)))
       clear hr2 hb2 f2 f3 v0 v1 v2 v3 v4 b0
       go_wp2_with fail
       go_ret
       exact ⟨by first | (rw [Hno.out]; done) | (rw [Hno.out]; rfl), hw2.alloc hw2.size _⟩
      ·by_cases hn : n = 0 ∨ n = 1
       ·have Hno : Hid (r = 0) := by show r = 0; rw [Hv.out]; simp [hn]
        have n1 : decide (n < 0) = false := by simp; omega
        have n2 : decide (n > 1) = false := by simp; omega
        clear Hv
        rcases hn with rfl | rfl
        ·go_wp2_with fail
         refine (typeOf_any S _ b ftype _ ((RSl.fair RType.fair).below HB.out hw1)).mono ?_
         rintro e w2 ⟨cs2, rfl, hr2, hb2⟩
         obtain ⟨B1, l1, B2, l2, B3, l3, rfl, -, -, -⟩ := hr2.parts
         have hw2 := below_via hw1 hb2 hw1.size
         have u2 := y2.below hb2 y2.lt
         have u3 := y3.below hb2 y3.lt
         have g3 := u2.cell 3
         have g1 := u3.cell 1
         have gl2 := u2.lt
         have gl3 := u3.lt
         simp only [List.getElem?_cons_zero, List.getElem?_cons_succ] at g3 g1
         have Hr2 := Lib.hid hr2
         have HK2 := Lib.hid (fun o => RType.fair.keep hr2 (Keep.of_below (hb2.alloc hb2.size o)))
         clear hr2 hb2 f2 f3 v0 v1 v2 v3 v4 b0
         go_wp2_with fail
         go_ret
         exact ⟨by first | (rw [Hno.out]; done) | (rw [Hno.out]; rfl), hw2.alloc hw2.size _⟩
        ·go_wp2_with fail
         refine (typeOf_any S _ b ftype _ ((RSl.fair RType.fair).below HB.out hw1)).mono ?_
         rintro e w2 ⟨cs2, rfl, hr2, hb2⟩
         obtain ⟨B1, l1, B2, l2, B3, l3, rfl, -, -, -⟩ := hr2.parts
         have hw2 := below_via hw1 hb2 hw1.size
         have u2 := y2.below hb2 y2.lt
         have u3 := y3.below hb2 y3.lt
         have g3 := u2.cell 3
         have g1 := u3.cell 1
         have gl2 := u2.lt
         have gl3 := u3.lt
         simp only [List.getElem?_cons_zero, List.getElem?_cons_succ] at g3 g1
         have Hr2 := Lib.hid hr2
         have HK2 := Lib.hid (fun o => RType.fair.keep hr2 (Keep.of_below (hb2.alloc hb2.size o)))
         clear hr2 hb2 f2 f3 v0 v1 v2 v3 v4 b0
         go_wp2_with fail
         go_ret
         exact ⟨by first | (rw [Hno.out]; done) | (rw [Hno.out]; rfl), hw2.alloc hw2.size _⟩
       ·have Hno : Hid (r = 6) := by show r = 6; rw [Hv.out]; simp [hn]
        by_cases hn0 : n < 0
        ·have n1 : decide (n < 0) = true := by simpa using hn0
         clear Hv
         go_wp2_with fail
         all_goals first
          | ((go_ret; exact ⟨by first | (rw [Hno.out]; done) | (rw [Hno.out]; rfl), hw1⟩))
          | (exfalso; omega)
        ·have n1 : decide (n < 0) = false := by simpa using hn0
         have n2 : decide (n > 1) = true := by simp; omega
         clear Hv
         go_wp2_with fail
         all_goals first
          | ((go_ret; exact ⟨by first | (rw [Hno.out]; done) | (rw [Hno.out]; rfl), hw1⟩))
          | (exfalso; omega)
      ·by_cases hn : n < -1099511627776 ∨ 1099511627776 < n
       ·have Hno : Hid (r = 2) := by show r = 2; rw [Hv.out]; simp [hn]
        by_cases hn0 : 1099511627776 < n
        ·have n1 : decide (n > 1099511627776) = true := by simpa using hn0
         clear Hv
         go_wp2_with fail
         all_goals first
          | ((go_ret; exact ⟨by first | (rw [Hno.out]; done) | (rw [Hno.out]; rfl), hw1⟩))
          | (exfalso; omega)
        ·have n1 : decide (n > 1099511627776) = false := by simpa using hn0
         have n2 : decide (n < -1099511627776) = true := by simp; omega
         clear Hv
         go_wp2_with fail
         all_goals first
          | ((go_ret; exact ⟨by first | (rw [Hno.out]; done) | (rw [Hno.out]; rfl), hw1⟩))
          | (exfalso; omega)
       ·have Hno : Hid (r = 0) := by show r = 0; rw [Hv.out]; simp [hn]
        have n1 : decide (n > 1099511627776) = false := by simp; omega
        have n2 : decide (n < -1099511627776) = false := by simp; omega
        clear Hv
        go_wp2_with fail
        refine (typeOf_any S _ b ftype _ ((RSl.fair RType.fair).below HB.out hw1)).mono ?_
        rintro e w2 ⟨cs2, rfl, hr2, hb2⟩
        obtain ⟨B1, l1, B2, l2, B3, l3, rfl, -, -, -⟩ := hr2.parts
        have hw2 := below_via hw1 hb2 hw1.size
        have u2 := y2.below hb2 y2.lt
        have u3 := y3.below hb2 y3.lt
        have g3 := u2.cell 3
        have g1 := u3.cell 1
        have gl2 := u2.lt
        have gl3 := u3.lt
        simp only [List.getElem?_cons_zero, List.getElem?_cons_succ] at g3 g1
        have Hr2 := Lib.hid hr2
        have HK2 := Lib.hid (fun o => RType.fair.keep hr2 (Keep.of_below (hb2.alloc hb2.size o)))
        clear hr2 hb2 f2 f3 v0 v1 v2 v3 v4 b0
        go_wp2_with fail
        go_ret
        exact ⟨by first | (rw [Hno.out]; done) | (rw [Hno.out]; rfl), hw2.alloc hw2.size _⟩
      ·go_wp2_with fail
       refine (typeOf_any S _ b ftype _ ((RSl.fair RType.fair).below HB.out hw1)).mono ?_
       rintro e w2 ⟨cs2, rfl, hr2, hb2⟩
       obtain ⟨B1, l1, B2, l2, B3, l3, rfl, -, -, -⟩ := hr2.parts
       have hw2 := below_via hw1 hb2 hw1.size
       have u2 := y2.below hb2 y2.lt
       have u3 := y3.below hb2 y3.lt
       have g3 := u2.cell 3
       have g1 := u3.cell 1
       have gl2 := u2.lt
       have gl3 := u3.lt
       simp only [List.getElem?_cons_zero, List.getElem?_cons_succ] at g3 g1
       have Hr2 := Lib.hid hr2
       have HK2 := Lib.hid (fun o => RType.fair.keep hr2 (Keep.of_below (hb2.alloc hb2.size o)))
       clear hr2 hb2 f2 f3 v0 v1 v2 v3 v4 b0
       obtain ⟨m, hm⟩ : ∃ m, m = meansF ((findT b ftype).getD TypeD.zero) n := ⟨_, rfl⟩
       have hm2 : m = meansF (typeOf b ftype) n := hm
       have hno : (m = true → r = 0) ∧ (m = false → r = 6) := ⟨fun h => by rw [Hv.out]; rw [h] at hm2; simp [← hm2], fun h => by rw [Hv.out]; rw [h] at hm2; simp [← hm2]⟩
       have HNM := Lib.hid hno
       have HI := Lib.hid (fun (cs : List Value) W h => itemIn_any S cs ((findT b ftype).getD TypeD.zero) n W h)
       rw [← hm] at HI
       generalize (findT b ftype).getD TypeD.zero = ty at *
       generalize (findT b ftype).isSome = tk at *
       have Hr3 := Lib.hid (HK2.out (.cells #[.string ty.name, .bool ty.enum, .slice B1 ty.fields.length l1, .slice B2 ty.gone.length l2, .slice B3 ty.items.length l3] 46))
       have Hw := Lib.hid (hw2.alloc hw2.size (.cells #[.string ty.name, .bool ty.enum, .slice B1 ty.fields.length l1, .slice B2 ty.gone.length l2, .slice B3 ty.items.length l3] 46))
       clear hm hm2 Hv hno
       go_wp2_with fail
       refine (HI.out _ _ Hr3.out).mono ?_
       rintro e w4 ⟨rfl, hb4⟩
       have hw4 := below_via Hw.out hb4 Hw.out.size
       cases m with
       | true =>
        have Hno := Lib.hid (HNM.out.1 rfl)
        go_wp2_with fail
        go_ret
        exact ⟨by first | (rw [Hno.out]; done) | (rw [Hno.out]; rfl), hw4⟩
       | false =>
        have Hno := Lib.hid (HNM.out.2 rfl)
        go_wp2_with fail
        go_ret
        exact ⟨by first | (rw [Hno.out]; done) | (rw [Hno.out]; rfl), hw4⟩
     ·have el : ((l.length : Int) == 0) = false := by simp only [beq_eq_false_iff_ne, ne_eq]; omega
      have Hno := Lib.hid (Hbd.out (Hodd.out.2 (.inl ⟨by decide, by omega⟩)))
      clear hi0 hl0 hs0 Hon Hbd
      subst hse
      go_wp2_with fail
      all_goals first
       | ((go_ret; exact ⟨by first | (rw [Hno.out]; done) | (rw [Hno.out]; rfl), hw1⟩))
       | (exfalso; omega)
    ·have ei : ((ids.length : Int) == 0) = false := by simp only [beq_eq_false_iff_ne, ne_eq]; omega
     have Hno := Lib.hid (Hbd.out (Hodd.out.2 (.inl ⟨by decide, by omega⟩)))
     clear hi0 hs0 Hon Hbd
     subst hse
     go_wp2_with fail
     all_goals first
      | ((go_ret; exact ⟨by first | (rw [Hno.out]; done) | (rw [Hno.out]; rfl), hw1⟩))
      | (exfalso; omega)
   ·obtain ⟨es1, es2⟩ := size_ne hs0
    have Hno := Lib.hid (Hbd.out (Hodd.out.2 (.inr (.inr ⟨by decide, hs0⟩))))
    clear hs0 Hon Hbd
    go_wp2_with fail
    all_goals first
     | ((go_ret; exact ⟨by first | (rw [Hno.out]; done) | (rw [Hno.out]; rfl), hw1⟩))
     | (exfalso; omega)
  ·--[K1
   have hf3 : fkind = 3 := by
    have := Hkk.out
    unfold kindOf at this
    split at this
    ·assumption
    ·split at this <;> cases this
   subst hf3
   by_cases hn0 : n = 0
   ·subst hn0
    by_cases hi0 : ids.length = 0
    ·have ei : ((ids.length : Int) == 0) = true := by simp [hi0]
     by_cases hl0 : l.length = 0
     ·have el : ((l.length : Int) == 0) = true := by simp [hl0]
      have hof : oddF (.mk 1 0 s ids l) = false := by
       cases hh : oddF (.mk 1 0 s ids l) with
       | false => rfl
       | true => have := Hodd.out.1 hh; omega
      have Hv : Hid (r = if plainF s = true then 0 else 1) := by show _ = _; rw [Hon.out hof]; simp; rfl
      clear Hon Hbd hof hi0 hl0
      have kc := fun W => Lib.run_convert_string_bytes (P := Tryz.prog) W 9 145 5 s rfl rfl rfl
      have hbw := Lib.bytesWorld_below w1 5 s
      have hcw := Lib.hid (fun j (hj : j < s.size) => Lib.bytesWorld_cell w1 5 s j hj)
      have hzw : w1.heap.size < (Lib.bytesWorld w1 5 s).heap.size := by rw [Lib.bytesWorld_size]; omega
      have q1 := y1.below hbw y1.lt
      have q2 := y2.below hbw y2.lt
      have q3 := y3.below hbw y3.lt
      have hwb := below_via hw1 hbw hw1.size
      go_wp2_with fail
      clear kc hbw b0 v0 v1 v2 v3 v4 f2 f3 y1 y2 y3 hw1 z1 z2 z3
      go_loopw [7, 99] (fun c i wr => ∃ (k : Nat) (ok : Bool), c = .bool ok ∧ i = .int .i64 k ∧ k ≤ s.size ∧ Hid ((ok && ((bytes s).drop k).all (fun c => decide (c.toNat < 128))) = (bytes s).all (fun c => decide (c.toNat < 128))) ∧
       Box wr w.heap.size 24 [.slice A b.length cap] ∧ Box wr (w.heap.size + 1) 55 [.int .i64 fid, .string fname, .string ftype, .int .i64 3, .int .i64 frule] ∧ Box wr (w.heap.size + 1 + 1) 37 [.int .i64 1, .int .i64 0, .string s, .slice I1 ids.length d1, .slice I2 l.length d2] ∧
       Hid (∀ j < s.size, wr.cell? ⟨w1.heap.size, j, none⟩ = some (.int .u8 (s.data.toList.getD j 0).toNat)) ∧ w1.heap.size < wr.heap.size ∧ Below w.heap.size w wr) (fun _ i _ => s.size - (intOf i).toNat)
      case atStart => exact ⟨0, true, rfl, rfl, by omega, (show _ = _ by rw [List.drop_zero, Bool.true_and]), q1, q2, q3, hcw, hzw, hwb⟩
      case round =>
       clear q1 q2 q3 hcw hzw hwb
       obtain ⟨k, ok, rfl, rfl, hk, he, q1, q2, q3, hcw, hzw, hb⟩ := hrel
       by_cases hlt : k < s.size
       ·have hlt2 : k < (bytes s).length := hlt
        have hd : (bytes s).drop k = (bytes s)[k] :: (bytes s).drop (k + 1) := List.drop_eq_getElem_cons hlt2
        have c0 := hcw.out k hlt
        have hge : s.data.toList.getD k 0 = (bytes s)[k] := by
         rw [List.getD_eq_getElem?_getD]
         show ((bytes s)[k]?).getD 0 = _
         rw [List.getElem?_eq_getElem hlt2]; rfl
        rw [hge] at c0
        rw [hd, List.all_cons] at he
        obtain ⟨m, hm⟩ : ∃ m, m = ((bytes s)[k]).toNat := ⟨_, rfl⟩
        rw [← hm] at c0 he
        clear hd hge hm hlt2
        by_cases hmm : m < 128
        ·have e1 : decide ((m : Int) < 128) = true := by simp; omega
         have he2 : Hid ((ok && ((bytes s).drop (k + 1)).all (fun c => decide (c.toNat < 128))) = (bytes s).all (fun c => decide (c.toNat < 128))) := by
          show _ = _; rw [← he.out]; simp [hmm]
         clear he
         cases ok
         ·go_wp2_with fail
          go_roundw
          case rel => exact ⟨k + 1, false, rfl, by go_num, by omega, he2, q1, q2, q3, hcw, hzw, hb⟩
          case measure => simp [intOf]; omega
         ·go_wp2_with fail
          go_roundw
          case rel => exact ⟨k + 1, true, by first | rfl | simp [e1], by go_num, by omega, he2, q1, q2, q3, hcw, hzw, hb⟩
          case measure => simp [intOf]; omega
        ·have e1 : decide ((m : Int) < 128) = false := by simp; omega
         have he2 : Hid ((false && ((bytes s).drop (k + 1)).all (fun c => decide (c.toNat < 128))) = (bytes s).all (fun c => decide (c.toNat < 128))) := by
          show _ = _; rw [← he.out]; simp [hmm]
         clear he
         cases ok
         ·go_wp2_with fail
          go_roundw
          case rel => exact ⟨k + 1, false, rfl, by go_num, by omega, he2, q1, q2, q3, hcw, hzw, hb⟩
          case measure => simp [intOf]; omega
         ·go_wp2_with fail
          go_roundw
          case rel => exact ⟨k + 1, false, by first | rfl | simp [e1], by go_num, by omega, he2, q1, q2, q3, hcw, hzw, hb⟩
          case measure => simp [intOf]; omega
       ·have hok : Hid (r = if ok = true ∧ s.size ≤ 40 then 0 else 1) := by
         show _ = _
         have h2 := he.out
         rw [List.drop_eq_nil_of_le (by show s.size ≤ k; omega)] at h2
         rw [Hv.out]
         unfold plainF
         rw [← h2]
         simp
        clear he Hv hcw
        have f2 : wr.cell? ⟨w.heap.size + 1, 2, none⟩ = some (.string ftype) := q2.cell 2
        have f3 : wr.cell? ⟨w.heap.size + 1, 3, none⟩ = some (.int .i64 3) := q2.cell 3
        have v2 : wr.cell? ⟨w.heap.size + 1 + 1, 2, none⟩ = some (.string s) := q3.cell 2
        have b0 : wr.cell? ⟨w.heap.size, 0, none⟩ = some (.slice A b.length cap) := q1.cell 0
        have z1 := q1.lt
        have z2 := q2.lt
        have z3 := q3.lt
        cases ok
        ·have Hno : Hid (r = 1) := by show r = 1; rw [hok.out]; simp
         clear hok
         go_wp2_with fail
         all_goals first
          | ((go_ret; exact ⟨by first | (rw [Hno.out]; done) | (rw [Hno.out]; rfl), hb⟩))
          | (exfalso; omega)
        ·by_cases h40 : s.size ≤ 40
         ·have Hno : Hid (r = 0) := by show r = 0; rw [hok.out]; simp [h40]
          have s40 : decide ((s.size : Int) > 40) = false := by simp; omega
          clear hok
          go_wp2_with fail
          refine (typeOf_any S _ b ftype _ ((RSl.fair RType.fair).below HB.out hb)).mono ?_
          rintro e w2 ⟨cs2, rfl, hr2, hb2⟩
          obtain ⟨B1, l1, B2, l2, B3, l3, rfl, -, -, -⟩ := hr2.parts
          have hw2 := below_via hb hb2 hb.size
          have u2 := q2.below hb2 q2.lt
          have g3 : w2.cell? ⟨w.heap.size + 1, 3, none⟩ = some (.int .i64 3) := u2.cell 3
          have gl2 := u2.lt
          clear hr2 hb2 f2 f3 v2 b0 q1 q2 q3
          go_wp2_with fail
          go_ret
          exact ⟨by first | (rw [Hno.out]; done) | (rw [Hno.out]; rfl), hw2.alloc hw2.size _⟩
         ·have Hno : Hid (r = 1) := by show r = 1; rw [hok.out]; simp [h40]
          have s40 : decide ((s.size : Int) > 40) = true := by simp; omega
          clear hok
          go_wp2_with fail
          all_goals first
           | ((go_ret; exact ⟨by first | (rw [Hno.out]; done) | (rw [Hno.out]; rfl), hb⟩))
           | (exfalso; omega)
     ·have el : ((l.length : Int) == 0) = false := by simp only [beq_eq_false_iff_ne, ne_eq]; omega
      have Hno := Lib.hid (Hbd.out (Hodd.out.2 (.inl ⟨by decide, by omega⟩)))
      clear hi0 hl0 Hon Hbd
      go_wp2_with fail
      all_goals first
       | ((go_ret; exact ⟨by first | (rw [Hno.out]; done) | (rw [Hno.out]; rfl), hw1⟩))
       | (exfalso; omega)
    ·have ei : ((ids.length : Int) == 0) = false := by simp only [beq_eq_false_iff_ne, ne_eq]; omega
     have Hno := Lib.hid (Hbd.out (Hodd.out.2 (.inl ⟨by decide, by omega⟩)))
     clear hi0 Hon Hbd
     go_wp2_with fail
     all_goals first
      | ((go_ret; exact ⟨by first | (rw [Hno.out]; done) | (rw [Hno.out]; rfl), hw1⟩))
      | (exfalso; omega)
   ·have n1 : (n == 0) = false := by simpa using hn0
    have Hno := Lib.hid (Hbd.out (Hodd.out.2 (.inr (.inl ⟨by decide, hn0⟩))))
    clear hn0 Hon Hbd
    go_wp2_with fail
    all_goals first
     | ((go_ret; exact ⟨by first | (rw [Hno.out]; done) | (rw [Hno.out]; rfl), hw1⟩))
     | (exfalso; omega)
  ·--[K2
   have hf5 : fkind = 5 := by
    have := Hkk.out
    unfold kindOf at this
    split at this
    ·cases this
    ·split at this
     ·assumption
     ·cases this
   subst hf5
   by_cases hn0 : n = 0
   ·subst hn0
    by_cases hs0 : s.size = 0
    ·have hse : s = ⟨#[]⟩ := ba_size0' hs0
     have hof : oddF (.mk 2 0 s ids l) = false := by
      cases hh : oddF (.mk 2 0 s ids l) with
      | false => rfl
      | true => have := Hodd.out.1 hh; omega
     have Hno : Hid (r = 0) := by show r = 0; rw [Hon.out hof]; simp
     clear Hon Hbd hof hs0
     subst hse
     go_wp2_with fail
     refine (typeOf_any S _ b ftype _ ((RSl.fair RType.fair).below HB.out hw1)).mono ?_
     rintro e w2 ⟨cs2, rfl, hr2, hb2⟩
     obtain ⟨B1, l1, B2, l2, B3, l3, rfl, -, -, -⟩ := hr2.parts
     have hw2 := below_via hw1 hb2 hw1.size
     have u2 := y2.below hb2 y2.lt
     have u3 := y3.below hb2 y3.lt
     have g3 := u2.cell 3
     have g1 := u3.cell 1
     have gl2 := u2.lt
     have gl3 := u3.lt
     simp only [List.getElem?_cons_zero, List.getElem?_cons_succ] at g3 g1
     have Hr2 := Lib.hid hr2
     have HK2 := Lib.hid (fun o => RType.fair.keep hr2 (Keep.of_below (hb2.alloc hb2.size o)))
     clear hr2 hb2 f2 f3 v0 v1 v2 v3 v4 b0
     go_wp2_with fail
     go_ret
     exact ⟨by first | (rw [Hno.out]; done) | (rw [Hno.out]; rfl), hw2.alloc hw2.size _⟩
    ·obtain ⟨es1, es2⟩ := size_ne hs0
     have Hno := Lib.hid (Hbd.out (Hodd.out.2 (.inr (.inr ⟨by decide, hs0⟩))))
     clear hs0 Hon Hbd
     go_wp2_with fail
     all_goals first
      | ((go_ret; exact ⟨by first | (rw [Hno.out]; done) | (rw [Hno.out]; rfl), hw1⟩))
      | (exfalso; omega)
   ·have n1 : (n == 0) = false := by simpa using hn0
    have Hno := Lib.hid (Hbd.out (Hodd.out.2 (.inr (.inl ⟨by decide, hn0⟩))))
    clear hn0 Hon Hbd
    go_wp2_with fail
    all_goals first
     | ((go_ret; exact ⟨by first | (rw [Hno.out]; done) | (rw [Hno.out]; rfl), hw1⟩))
     | (exfalso; omega)
 ·have hkn : (kind != kindOf fkind) = true := by simpa using hkk
  have Hno := Lib.hid (Hno1.out hkk)
  go_wp2_with fail
  all_goals first
   | ((go_ret; exact ⟨by first | (rw [Hno.out]; done) | (rw [Hno.out]; rfl), hw1⟩))
   | (exfalso; omega)
end Go.Proofs.YtfidfakcbjoilaaGreatDoor
