/- The walk of value.fits. -/
import Derived.Test.YtfidfakcbjoilaaGreatDoorValueSmall
import Derived.Test.YtfidfakcbjoilaaGreatDoorVLaws
set_option linter.all false
set_option maxRecDepth 100000
set_option maxHeartbeats 8000000
namespace Go.Proofs.YtfidfakcbjoilaaGreatDoor
open Go.RowKit
theorem fits_no1 {b : BookD} {f : FieldD} {v : ValueD} (h : v.kind ≠ kindOf f.kind) : fitsF b f v = 5 := by unfold fitsF; rw [if_pos h]
theorem fits_no2 {b : BookD} {f : FieldD} {v : ValueD} (h : v.kind = kindOf f.kind) (ho : oddF v = true) : fitsF b f v = 1 := by unfold fitsF; rw [if_neg (by simpa using h), if_pos ho]
theorem fits_on {b : BookD} {f : FieldD} {v : ValueD} (h : v.kind = kindOf f.kind) (ho : oddF v = false) : fitsF b f v =
  if f.kind = 1 then (if v.n = 0 ∨ v.n = 1 then 0 else 6) else if f.kind = 2 then (if v.n < -1099511627776 ∨ 1099511627776 < v.n then 2 else 0)
  else if f.kind = 3 then (if plainF v.s = true then 0 else 1) else if f.kind = 4 then (if meansF (typeOf b f.type) v.n = true then 0 else 6) else 0 := by
 unfold fitsF; rw [if_neg (by simpa using h), if_neg (by rw [ho]; decide)]; rfl
theorem kindOf_0 {k : Int} (h3 : k ≠ 3) (h5 : k ≠ 5) : kindOf k = 0 := by unfold kindOf; rw [if_neg h3, if_neg h5]
theorem fits_any (S S' : Nat → Prop) (vb : Value) (b : BookD) (f : FieldD) (cs : List Value) (v : ValueD) (w : World) (hb0 : RSl 5 96 RType S w [vb] b) (hr : RVal S' w cs v) (ho : v.s.size ≤ 140737488351232) :
  Calls Tryz.prog 84 #[.agg #[vb], .agg #[.int .i64 f.id, .string f.name, .string f.type, .int .i64 f.kind, .int .i64 f.rule], .agg cs.toArray] w (Ret w (.int .i64 (fitsF b f v))) := by
 obtain ⟨A, cap, rfl, hlc, hlb⟩ := hb0.form
 have Hno1 := Lib.hid (@fits_no1 b f v)
 have Hno2 := Lib.hid (@fits_no2 b f v)
 have Hon := Lib.hid (@fits_on b f v)
 have Hodd := Lib.hid (@odd_iff v)
 obtain ⟨r, hrr⟩ : ∃ r, r = fitsF b f v := ⟨_, rfl⟩
 obtain ⟨od, hod⟩ : ∃ r, r = oddF v := ⟨_, rfl⟩
 rw [← hrr] at Hno1 Hno2 Hon ⊢
 rw [← hod] at Hno2 Hon Hodd
 obtain ⟨fid, fname, ftype, fkind, frule⟩ := f
 obtain ⟨kind, n, s, ids, l⟩ := v
 obtain ⟨I1, d1, I2, d2, rfl, hri, hrl⟩ := hr.parts
 simp only [ValueD.kind, ValueD.n, ValueD.s, ValueD.ids, ValueD.l] at Hno1 Hno2 Hon Hodd ho ⊢
 have HB := Lib.hid hb0
 obtain ⟨_, _, _, hic, hib⟩ := hri.form
 obtain ⟨_, _, _, hlc2, hlb2⟩ := hrl.form
 clear hb0 hr hri hrl hrr hod
 have hw3 : Below w.heap.size w (((w.alloc (.cells #[.slice A b.length cap] 24)).alloc (.cells #[.int .i64 fid, .string fname, .string ftype, .int .i64 fkind, .int .i64 frule] 55)).alloc (.cells #[.int .i64 kind, .int .i64 n, .string s, .slice I1 ids.length d1, .slice I2 l.length d2] 37)) :=
  (((Below.refl _ _).alloc (Nat.le_refl _) _).alloc (by simp) _).alloc (by simp; omega) _
 go_enter Tryz.func84, Tryz.ntmps84
 obtain ⟨kk, hkk⟩ : ∃ kk, kk = kindOf fkind := ⟨_, rfl⟩
 have hkq := fun W n => kind_quiet fkind W n
 rw [← hkk] at hkq Hno1 Hno2 Hon
 have HKQ := Lib.hid hkq
 clear hkq
 by_cases hk : kind = kk
 ·subst hk
  have hkb : (kind != kind) = false := by simp
  by_cases h3 : fkind = 3
  ·subst h3
   have hk1 : kind = 1 := hkk.trans rfl
   clear hkk
   subst hk1
   cases od with
   | true =>
    have Hf := Lib.hid (Hno2.out rfl rfl)
    by_cases hx : 0 < ids.length + l.length
    ·have hx' : (0 : Int) < (ids.length : Int) + l.length := by omega
     clear hx
     go_wp2_with fail
     go_quiet ((go_at_call 39; exact HKQ.out _ _))
     go_wp2_with fail
     go_ret
     exact ⟨ret_i (by rw [Hf.out]), below_drewN hw3 _⟩
    ·have hx' : ¬ (0 : Int) < (ids.length : Int) + l.length := by omega
     have hn : n ≠ 0 := fun h => by
      have := Hodd.out.2 ⟨fun _ => ⟨List.eq_nil_of_length_eq_zero (by omega), List.eq_nil_of_length_eq_zero (by omega)⟩, fun _ => h, fun h => absurd rfl h⟩
      cases this
     have hnb : (n != 0) = true := by simpa using hn
     clear hx hn
     go_wp2_with fail
     go_quiet ((go_at_call 39; exact HKQ.out _ _))
     go_wp2_with fail
     go_ret
     exact ⟨ret_i (by rw [Hf.out]), below_drewN hw3 _⟩
   | false =>
    obtain ⟨e1, e2, _⟩ := Hodd.out.1 rfl
    obtain ⟨rfl, rfl⟩ := e1 (by decide)
    obtain rfl := e2 (by decide)
    have hf := Hon.out rfl rfl
    clear e1 e2
    rw [if_neg (by decide), if_neg (by decide), if_pos rfl] at hf
    have Hft := Lib.hid (fun h : plainF s = true => hf.trans (if_pos h))
    have Hff := Lib.hid (fun h : ¬ plainF s = true => hf.trans (if_neg h))
    clear hf
    go_wp2_with fail
    go_quiet ((go_at_call 39; exact HKQ.out _ _))
    go_wp2_with fail
    refine (plain_any s _ (by omega)).mono ?_
    rintro e w1 ⟨rfl, rfl⟩
    cases hp : plainF s with
    | true =>
     have Hf := Lib.hid (Hft.out hp)
     clear hp
     go_wp2_with fail
     go_ret
     exact ⟨ret_i (by rw [Hf.out]), below_drewN hw3 _⟩
    | false =>
     have Hf := Lib.hid (Hff.out (by rw [hp]; decide))
     clear hp
     go_wp2_with fail
     go_ret
     exact ⟨ret_i (by rw [Hf.out]), below_drewN hw3 _⟩
  ·by_cases h5 : fkind = 5
   ·subst h5
    have hk1 : kind = 2 := hkk.trans rfl
    clear hkk
    subst hk1
    cases od with
    | true =>
     have Hf := Lib.hid (Hno2.out rfl rfl)
     by_cases hx : n = 0
     ·subst hx
      have hs : (s.toList == []) = false := by
       cases hq : s.toList with
       | nil =>
        have := Hodd.out.2 ⟨fun h => absurd rfl h, fun _ => rfl, fun _ => by rw [ByteArray.toList_eq] at hq; exact congrArg List.length hq⟩
        cases this
       | cons a l => rfl
      go_wp2_with fail
      go_quiet ((go_at_call 39; exact HKQ.out _ _))
      go_wp2_with fail
      go_ret
      exact ⟨ret_i (by rw [Hf.out]), below_drewN hw3 _⟩
     ·have hnb : (n != 0) = true := by simpa using hx
      clear hx
      go_wp2_with fail
      go_quiet ((go_at_call 39; exact HKQ.out _ _))
      go_wp2_with fail
      go_ret
      exact ⟨ret_i (by rw [Hf.out]), below_drewN hw3 _⟩
    | false =>
     obtain ⟨_, e2, e3⟩ := Hodd.out.1 rfl
     obtain rfl := e2 (by decide)
     obtain rfl := ba_size0' (e3 (by decide))
     have hf := Hon.out rfl rfl
     clear e2 e3
     rw [if_neg (by decide), if_neg (by decide), if_neg (by decide), if_neg (by decide)] at hf
     have Hf := Lib.hid hf
     clear hf
     go_wp2_with fail
     go_quiet ((go_at_call 39; exact HKQ.out _ _))
     go_wp2_with fail
     go_ret
     exact ⟨ret_i (by rw [Hf.out]), below_drewN hw3 _⟩
   ·have hk1 : kind = 0 := hkk.trans (kindOf_0 h3 h5)
    have b3 : (fkind == 3) = false := by simpa using h3
    have b5 : (fkind == 5) = false := by simpa using h5
    have Hon2 : Hid (od = false → r = if fkind = 1 then (if n = 0 ∨ n = 1 then 0 else 6) else if fkind = 2 then (if n < -1099511627776 ∨ 1099511627776 < n then 2 else 0) else if fkind = 4 then (if meansF (typeOf b ftype) n = true then 0 else 6) else 0) := fun h => by
     have := Hon.out rfl h
     rw [this]
     simp only [if_neg h3]
     rfl
    clear hkk h3 h5
    subst hk1
    cases od with
    | true =>
     have Hf := Lib.hid (Hno2.out rfl rfl)
     by_cases hx : 0 < ids.length + l.length
     ·have hx' : (0 : Int) < (ids.length : Int) + l.length := by omega
      clear hx
      go_wp2_with fail
      go_quiet ((go_at_call 39; exact HKQ.out _ _))
      go_wp2_with fail
      go_ret
      exact ⟨ret_i (by rw [Hf.out]), below_drewN hw3 _⟩
     ·have hx' : ¬ (0 : Int) < (ids.length : Int) + l.length := by omega
      have hs : (s.toList == []) = false := by
       cases hq : s.toList with
       | nil =>
        have := Hodd.out.2 ⟨fun _ => ⟨List.eq_nil_of_length_eq_zero (by omega), List.eq_nil_of_length_eq_zero (by omega)⟩, fun h => absurd rfl h, fun _ => by rw [ByteArray.toList_eq] at hq; exact congrArg List.length hq⟩
        cases this
       | cons a l => rfl
      clear hx
      go_wp2_with fail
      go_quiet ((go_at_call 39; exact HKQ.out _ _))
      go_wp2_with fail
      go_ret
      exact ⟨ret_i (by rw [Hf.out]), below_drewN hw3 _⟩
    | false =>
     obtain ⟨e1, _, e3⟩ := Hodd.out.1 rfl
     obtain ⟨rfl, rfl⟩ := e1 (by decide)
     obtain rfl := ba_size0' (e3 (by decide))
     have hf := Hon2.out rfl
     clear e1 e3
     by_cases h1 : fkind = 1
     ·subst h1
      rw [if_pos rfl] at hf
      by_cases hn : n = 0 ∨ n = 1
      ·rw [if_pos hn] at hf
       have Hf := Lib.hid hf
       clear hf
       rcases hn with rfl | rfl
       ·go_wp2_with fail
        go_quiet ((go_at_call 39; exact HKQ.out _ _))
        go_wp2_with fail
        go_ret
        exact ⟨ret_i (by rw [Hf.out]), below_drewN hw3 _⟩
       ·go_wp2_with fail
        go_quiet ((go_at_call 39; exact HKQ.out _ _))
        go_wp2_with fail
        go_ret
        exact ⟨ret_i (by rw [Hf.out]), below_drewN hw3 _⟩
      ·rw [if_neg hn] at hf
       have Hf := Lib.hid hf
       have n0 : (n != 0) = true := by simp; omega
       have n1 : (n != 1) = true := by simp; omega
       clear hf hn
       go_wp2_with fail
       go_quiet ((go_at_call 39; exact HKQ.out _ _))
       go_wp2_with fail
       go_ret
       exact ⟨ret_i (by rw [Hf.out]), below_drewN hw3 _⟩
     ·rw [if_neg h1] at hf
      have b1 : (fkind == 1) = false := by simpa using h1
      clear h1
      by_cases h2 : fkind = 2
      ·subst h2
       rw [if_pos rfl] at hf
       by_cases ha : n < -1099511627776
       ·rw [if_pos (.inl ha)] at hf
        have Hf := Lib.hid hf
        clear hf
        go_wp2_with fail
        go_quiet ((go_at_call 39; exact HKQ.out _ _))
        go_wp2_with fail
        go_ret
        exact ⟨ret_i (by rw [Hf.out]), below_drewN hw3 _⟩
       ·by_cases hb : 1099511627776 < n
        ·rw [if_pos (.inr hb)] at hf
         have Hf := Lib.hid hf
         clear hf
         go_wp2_with fail
         go_quiet ((go_at_call 39; exact HKQ.out _ _))
         go_wp2_with fail
         go_ret
         exact ⟨ret_i (by rw [Hf.out]), below_drewN hw3 _⟩
        ·rw [if_neg (by omega)] at hf
         have Hf := Lib.hid hf
         clear hf
         go_wp2_with fail
         go_quiet ((go_at_call 39; exact HKQ.out _ _))
         go_wp2_with fail
         go_ret
         exact ⟨ret_i (by rw [Hf.out]), below_drewN hw3 _⟩
      ·rw [if_neg h2] at hf
       have b2 : (fkind == 2) = false := by simpa using h2
       clear h2
       by_cases h4 : fkind = 4
       ·subst h4
        rw [if_pos rfl] at hf
        have Hft := Lib.hid (fun h : meansF (typeOf b ftype) n = true => hf.trans (if_pos h))
        have Hff := Lib.hid (fun h : ¬ meansF (typeOf b ftype) n = true => hf.trans (if_neg h))
        clear hf
        go_wp2_with fail
        go_quiet ((go_at_call 39; exact HKQ.out _ _))
        go_wp2_with fail
        have hwq := below_drewN hw3 nq
        have hbx : Box ((((w.alloc (.cells #[.slice A b.length cap] 24)).alloc (.cells #[.int .i64 fid, .string fname, .string ftype, .int .i64 4, .int .i64 frule] 55)).alloc (.cells #[.int .i64 0, .int .i64 n, .string ⟨#[]⟩, .slice I1 0 d1, .slice I2 0 d2] 37)).drewN nq) (w.heap.size + 2) 37 [.int .i64 0, .int .i64 n, .string ⟨#[]⟩, .slice I1 0 d1, .slice I2 0 d2] := by
         have := Box.new ((w.alloc (.cells #[.slice A b.length cap] 24)).alloc (.cells #[.int .i64 fid, .string fname, .string ftype, .int .i64 4, .int .i64 frule] 55)) 37 [.int .i64 0, .int .i64 n, .string ⟨#[]⟩, .slice I1 0 d1, .slice I2 0 d2]
         have := this.drewN nq
         simpa using this
        refine (find_any S _ b ftype _ ((RSl.fair RType.fair).below HB.out hwq)).mono ?_
        rintro e w1 ⟨cs3, rfl, hr3, hb1⟩
        obtain ⟨B1, l1, B2, l2, B3, l3, rfl, -, -, -⟩ := hr3.parts
        have hw1 := below_via hwq hb1 hwq.size
        have hbx1 := hbx.below hb1 hbx.lt
        have x1 : w1.cell? ⟨w.heap.size + 2, 1, none⟩ = some (.int .i64 n) := hbx1.cell 1
        have hxl1 : w.heap.size + 2 < w1.heap.size := hbx1.lt
        obtain ⟨ty, hty⟩ : ∃ ty, ty = (findT b ftype).getD TypeD.zero := ⟨_, rfl⟩
        have htf : typeOf b ftype = ty := hty.symm
        rw [← hty] at hr3 ⊢
        rw [htf] at Hft Hff
        obtain ⟨ok, hok⟩ : ∃ ok, ok = (findT b ftype).isSome := ⟨_, rfl⟩
        rw [← hok]
        have hmean := fun W (h : RType S W [.string ty.name, .bool ty.enum, .slice B1 ty.fields.length l1, .slice B2 ty.gone.length l2, .slice B3 ty.items.length l3] ty) => means_any S _ ty n W h
        obtain ⟨m, hm⟩ : ∃ m, m = meansF ty n := ⟨_, rfl⟩
        rw [← hm] at Hft Hff hmean
        have hwz := hw1.alloc hw1.size (.cells #[.string ty.name, .bool ty.enum, .slice B1 ty.fields.length l1, .slice B2 ty.gone.length l2, .slice B3 ty.items.length l3] 46)
        have HR3 := Lib.hid (RType.fair.keep hr3 ((Keep.of_below hb1).trans (Keep.alloc S w1 (.cells #[.string ty.name, .bool ty.enum, .slice B1 ty.fields.length l1, .slice B2 ty.gone.length l2, .slice B3 ty.items.length l3] 46))))
        have HM := Lib.hid hmean
        obtain ⟨tyn, tye, tyf, tyg, tyi⟩ := ty
        clear hbx hbx1 hb1 hw1 hwq hty htf hok hm hmean hr3
        go_wp2_with fail
        refine (HM.out _ HR3.out).mono ?_
        rintro e w2 ⟨rfl, hb2⟩
        have hw2 := below_via hwz hb2 hwz.size
        clear hwz hb2 HR3 HM x1
        cases m with
        | true =>
         have Hf := Lib.hid (Hft.out rfl)
         go_wp2_with fail
         go_ret
         exact ⟨ret_i (by rw [Hf.out]), hw2⟩
        | false =>
         have Hf := Lib.hid (Hff.out (by decide))
         go_wp2_with fail
         go_ret
         exact ⟨ret_i (by rw [Hf.out]), hw2⟩
       ·rw [if_neg h4] at hf
        have b4 : (fkind == 4) = false := by simpa using h4
        have Hf := Lib.hid hf
        clear h4 hf
        go_wp2_with fail
        go_quiet ((go_at_call 39; exact HKQ.out _ _))
        go_wp2_with fail
        go_ret
        exact ⟨ret_i (by rw [Hf.out]), below_drewN hw3 _⟩
 ·have Hf := Lib.hid (Hno1.out hk)
  have hkb : (kind != kk) = true := by simpa using hk
  clear hk hkk
  go_wp2_with fail
  go_quiet ((go_at_call 39; exact HKQ.out _ _))
  go_wp2
  go_ret
  exact ⟨ret_i (by rw [Hf.out]), below_drewN hw3 _⟩
end Go.Proofs.YtfidfakcbjoilaaGreatDoor
