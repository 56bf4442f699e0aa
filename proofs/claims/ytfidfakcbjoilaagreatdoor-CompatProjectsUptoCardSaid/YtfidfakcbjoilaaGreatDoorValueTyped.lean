/- The walks of value.typed and value.Typed. -/
import Derived.Deep.Light
import Derived.Test.YtfidfakcbjoilaaGreatDoorValueLeast
import Derived.Deep.DeepCutAuto
import Derived.Deep.CutBlock
set_option linter.all false
set_option maxRecDepth 100000
set_option maxHeartbeats 8000000
namespace Go.Proofs.YtfidfakcbjoilaaGreatDoor
open Go.RowKit
attribute [local go_sem ↓] Go.wp_at_zero Go.wp_at_succ
def lastI (ids : List Int) : Nat → Option Int
 | 0 => none
 | k + 1 => ids[k]?
theorem typed_no1 {b : BookD} {t : TypeD} {kind n : Int} {s : ByteArray} {ids : List Int} {l : List ValueD} (h : kind ≠ 2) : typedF b t (.mk kind n s ids l) = 5 := by rw [typedF, if_pos h]
theorem typed_no2 {b : BookD} {t : TypeD} {n : Int} {s : ByteArray} {ids : List Int} {l : List ValueD} (h : ids.length ≠ l.length ∨ n ≠ 0 ∨ s.size ≠ 0) : typedF b t (.mk 2 n s ids l) = 1 := by
 rw [typedF, if_neg (by simp), if_pos h]
theorem typed_on {b : BookD} {t : TypeD} {n : Int} {s : ByteArray} {ids : List Int} {l : List ValueD} (h : ¬ (ids.length ≠ l.length ∨ n ≠ 0 ∨ s.size ≠ 0)) :
  typedF b t (.mk 2 n s ids l) = if typedGo b t none ids l ≠ 0 then typedGo b t none ids l else if fullF t ids = true then 0 else 3 := by
 rw [typedF, if_neg (by simp), if_neg h]
theorem typedGo_step {b : BookD} {t : TypeD} {ids : List Int} {l : List ValueD} {k : Nat} (hk : k < l.length) (hl : ids.length = l.length) :
  typedGo b t (lastI ids k) (ids.drop k) (l.drop k) = (if placeF t (lastI ids k) (ids[k]'(by go_light; omega)) ≠ 0 then placeF t (lastI ids k) (ids[k]'(by go_light; omega))
   else if fitsF b ((fieldOf t (ids[k]'(by go_light; omega))).getD .zero) l[k] ≠ 0 then fitsF b ((fieldOf t (ids[k]'(by go_light; omega))).getD .zero) l[k]
   else if ((fieldOf t (ids[k]'(by go_light; omega))).getD .zero).kind = 5 ∧ typedF b (typeOf b ((fieldOf t (ids[k]'(by go_light; omega))).getD .zero).type) l[k] ≠ 0 then typedF b (typeOf b ((fieldOf t (ids[k]'(by go_light; omega))).getD .zero).type) l[k]
   else typedGo b t (lastI ids (k + 1)) (ids.drop (k + 1)) (l.drop (k + 1))) := by
 have h1 : ids.drop k = (ids[k]'(by go_light; omega)) :: ids.drop (k + 1) := List.drop_eq_getElem_cons (by go_light; omega)
 have h2 : l.drop k = l[k] :: l.drop (k + 1) := List.drop_eq_getElem_cons hk
 have h3 : lastI ids (k + 1) = some (ids[k]'(by go_light; omega)) := List.getElem?_eq_getElem (by go_light; omega)
 rw [h1, h2, typedGo, h3]
theorem place_none {t : TypeD} {last : Option Int} {id : Int} (h : (fieldOf t id).isSome = false) : placeF t last id = 3 := by
 unfold placeF
 cases hf : fieldOf t id with
 | none => rfl
 | some f => rw [hf] at h; cases h
theorem place_first {t : TypeD} {id : Int} (h : (fieldOf t id).isSome = true) : placeF t none id = 0 := by
 unfold placeF
 cases hf : fieldOf t id with
 | none => rw [hf] at h; cases h
 | some f => rfl
theorem place_next {t : TypeD} {y id : Int} (h : (fieldOf t id).isSome = true) : placeF t (some y) id = if id < y then 1 else if y = id ∧ ((fieldOf t id).getD .zero).rule ≠ 3 then 4 else 0 := by
 unfold placeF
 cases hf : fieldOf t id with
 | none => rw [hf] at h; cases h
 | some f => rfl
def TypedAt (S S' : Nat → Prop) (vb : Value) (b : BookD) (d : Nat) : Prop := ∀ (cst cs : List Value) (t : TypeD) (v : ValueD) (w : World), depthV v ≤ d → RSl 5 96 RType S w [vb] b → RType S w cst t → RVal S' w cs v → okV v →
  Calls Tryz.prog 53 #[.agg #[vb], .agg cst.toArray, .agg cs.toArray] w (Ret w (.int .i64 (typedF b t v)))
theorem typed_succ (S S' : Nat → Prop) (vb : Value) (b : BookD) (d : Nat) (IH0 : TypedAt S S' vb b d) : TypedAt S S' vb b (d + 1) := by
 intro cst cs t v w hd hb0 ht hr hok
 obtain ⟨kind, n, s, ids, l⟩ := v
 obtain ⟨A, cap, rfl, hlc, hlb⟩ := hb0.form
 obtain ⟨A1, k1, A2, k2, A3, k3, rfl, hf, hgn, hi⟩ := ht.parts
 obtain ⟨I1, d1, I2, d2, rfl, hri, hrl⟩ := hr.parts
 obtain ⟨_, _, _, hic, hib⟩ := hri.form
 obtain ⟨_, _, _, hlc2, hlb2⟩ := hrl.form
 obtain ⟨_, _, hff, hflc, hflb⟩ := hf.form
 have IH := Lib.hid IH0
 have HB := Lib.hid hb0
 have HT := Lib.hid ht
 have HF := Lib.hid hf
 have HI := Lib.hid hri
 have HL := Lib.hid hrl
 rw [depthV] at hd
 rw [okV] at hok
 have HD := Lib.hid (fun x (hx : x ∈ l) => (show depthV x ≤ d from by go_light; have := depthL_mem' hx; omega))
 have HO := Lib.hid (fun x (hx : x ∈ l) => okL_mem hok.2 hx)
 have hss : s.size ≤ 140737488351232 := hok.1
 obtain ⟨x1, x2, x3, x4⟩ := boxes3 w [.slice A b.length cap] [.string t.name, .bool t.enum, .slice A1 t.fields.length k1, .slice A2 t.gone.length k2, .slice A3 t.items.length k3] [.int .i64 kind, .int .i64 n, .string s, .slice I1 ids.length d1, .slice I2 l.length d2] 24 46 37
 clear hb0 ht hr hri hrl hf hgn hi hd hok hff
 go_enter Tryz.func53, Tryz.ntmps53
 by_cases hk2 : kind = 2
 ·subst hk2
  by_cases hodd : ids.length ≠ l.length ∨ n ≠ 0 ∨ s.size ≠ 0
  ·have Hno := Lib.hid (typed_no2 (b := b) (t := t) hodd)
   by_cases ho1 : ids.length = l.length
   ·by_cases ho2 : n = 0
    ·have hs : (s.toList == []) = false := by
      cases hq : s.toList with
      | nil => exact absurd (by rw [ByteArray.toList_eq] at hq; exact congrArg List.length hq) (show s.size ≠ 0 by go_light; omega)
      | cons a l => rfl
     have hll : ((ids.length : Int) != l.length) = false := by go_light; simp; omega
     have hnn : (n != 0) = false := by simp [ho2]
     clear hodd ho1 ho2
     go_wp2_with fail
     go_ret
     exact ⟨ret_i (by rw [Hno.out]), x4⟩
    ·have hll : ((ids.length : Int) != l.length) = false := by go_light; simp; omega
     have hnn : (n != 0) = true := by simpa using ho2
     clear hodd ho1 ho2
     go_wp2_with fail
     go_ret
     exact ⟨ret_i (by rw [Hno.out]), x4⟩
   ·have hll : ((ids.length : Int) != l.length) = true := by go_light; simp; omega
    clear hodd ho1
    go_wp2_with fail
    go_ret
    exact ⟨ret_i (by rw [Hno.out]), x4⟩
  ·have Hon := Lib.hid (typed_on (b := b) (t := t) hodd)
   have hll : ids.length = l.length := by go_light; omega
   obtain rfl : n = 0 := by go_light; omega
   obtain rfl : s = ⟨#[]⟩ := ba_size0' (by go_light; omega)
   clear hodd
   have Hll := Lib.hid hll
   have hlb : ((ids.length : Int) != l.length) = false := by go_light; simp; omega
   clear hll
   go_wp2_with fail
   go_loopw [40] (fun i wr => ∃ k : Nat, i = .int .i64 k ∧ k ≤ ids.length ∧ Hid (typedGo b t (lastI ids k) (ids.drop k) (l.drop k) = typedGo b t none ids l) ∧
    Box wr w.heap.size 24 [.slice A b.length cap] ∧ Box wr (w.heap.size + 1) 46 [.string t.name, .bool t.enum, .slice A1 t.fields.length k1, .slice A2 t.gone.length k2, .slice A3 t.items.length k3] ∧ Box wr (w.heap.size + 1 + 1) 37 [.int .i64 2, .int .i64 0, .string ⟨#[]⟩, .slice I1 ids.length d1, .slice I2 l.length d2] ∧ Below w.heap.size w wr) (fun i _ => ids.length - (intOf i).toNat)
   case atStart => exact ⟨0, rfl, by go_light; omega, rfl, x1, x2, x3, x4⟩
   case round =>
    obtain ⟨k, rfl, hk, he, hbb, hbt, hbv, hb⟩ := hrel
    clear x1 x2 x3 x4
    by_cases hlt : k < ids.length
    ·have hkl : k < l.length := by go_light; have := Hll.out; omega
     obtain ⟨ig, io, rfl, hSi, hgi⟩ := HI.out.base (by go_light; omega)
     obtain ⟨lg, lo, rfl, hSl, hlgw⟩ := HL.out.base (by go_light; omega)
     have hci := (HI.out.flat (enc := fun x : Int => [.int .i64 x]) hlt).keep (Keep.of_below hb) hSi
     obtain ⟨es, _, hrx, hlies⟩ := HL.out.lies hkl
     have hst := typedGo_step (b := b) (t := t) hkl Hll.out
     have hdx := HD.out l[k] (List.getElem_mem hkl)
     have hox := HO.out l[k] (List.getElem_mem hkl)
     have hpv : 0 < k → wr.cell? ⟨ig, io + (k - 1), none⟩ = some (.int .i64 ids[k - 1]) := fun h0 => by
      have := ((HI.out.flat (enc := fun x : Int => [.int .i64 x]) (show k - 1 < ids.length by go_light; omega)).keep (Keep.of_below hb) hSi).at_ 0 rfl
      simpa using this
     obtain ⟨id, hid⟩ : ∃ id, id = ids[k] := ⟨_, rfl⟩
     obtain ⟨x, hx⟩ : ∃ x, x = l[k] := ⟨_, rfl⟩
     rw [← hid] at hci hst
     rw [← hx] at hrx hst hdx hox
     rw [he.out] at hst
     obtain ⟨vk, vn, vs, vi, vl⟩ := x
     obtain ⟨E1, f1, E2, f2, rfl, _, _⟩ := hrx.parts
     have q0 : wr.cell? ⟨ig, io + k, none⟩ = some (.int .i64 id) := by have := hci.at_ 0 rfl; simpa using this
     have hgil : ig < wr.heap.size := Nat.lt_of_lt_of_le hgi hb.size
     have HLs := Lib.hid hlies
     have HRx := Lib.hid hrx
     have HDx := Lib.hid hdx
     have HOk := Lib.hid hox
     have hos : vs.size ≤ 140737488351232 := by rw [okV] at hox; exact hox.1
     have HOx : Hid ((ValueD.mk vk vn vs vi vl).s.size ≤ 140737488351232) := hos
     have Hst0 := Lib.hid hst
     have Hret : Hid (∀ e, typedGo b t none ids l = e → e ≠ 0 → typedF b t (.mk 2 0 ⟨#[]⟩ ids l) = e) := fun e h1 h2 => by rw [Hon.out, if_pos (by rw [h1]; exact h2), h1]
     have hpv1 := hpv
     clear hci hrx hst hdx hox hos hid hx hlies hpv
     obtain ⟨bt0, bt1, bt2, bt3, bt4⟩ := hbt.five
     have hltt := hbt.lt
     have Hpv := Lib.hid hpv1
     clear hpv1
     go_wp2_with fail
     refine (fieldOf_out S _ t id _ (RType.fair.keep HT.out (Keep.of_below hb))).mono ?_
     rintro e w1 ⟨fx, hfx, rfl, hb1⟩
     have Hst1 : Hid (typedGo b t none ids l = if placeF t (lastI ids k) id ≠ 0 then placeF t (lastI ids k) id else if fitsF b fx (.mk vk vn vs vi vl) ≠ 0 then fitsF b fx (.mk vk vn vs vi vl)
       else if fx.kind = 5 ∧ typedF b (typeOf b fx.type) (.mk vk vn vs vi vl) ≠ 0 then typedF b (typeOf b fx.type) (.mk vk vn vs vi vl) else typedGo b t (lastI ids (k + 1)) (ids.drop (k + 1)) (l.drop (k + 1))) := by
      show _ = _
      rw [← hfx.out]
      exact Hst0.out
     have hplace : ∀ y, (fieldOf t id).isSome = true → placeF t (some y) id = if id < y then 1 else if y = id ∧ fx.rule ≠ 3 then 4 else 0 := fun y h => by
      rw [place_next h, hfx.out]
     obtain ⟨xid, xname, xtype, xkind, xrule⟩ := fx
     dsimp only at Hst1 hplace ⊢
     have Hplace := Lib.hid hplace
     have hw1 := below_via hb hb1 hb.size
     have hw2 := hw1.alloc hw1.size (.cells #[.int .i64 xid, .string xname, .string xtype, .int .i64 xkind, .int .i64 xrule] 55)
     have hbb2 := (hbb.below hb1 hbb.lt).alloc (.cells #[.int .i64 xid, .string xname, .string xtype, .int .i64 xkind, .int .i64 xrule] 55)
     have hbt2 := (hbt.below hb1 hbt.lt).alloc (.cells #[.int .i64 xid, .string xname, .string xtype, .int .i64 xkind, .int .i64 xrule] 55)
     have hbv1 := hbv.below hb1 hbv.lt
     have hbv2 := hbv1.alloc (.cells #[.int .i64 xid, .string xname, .string xtype, .int .i64 xkind, .int .i64 xrule] 55)
     have hx2 : Box (w1.alloc (.cells #[.int .i64 xid, .string xname, .string xtype, .int .i64 xkind, .int .i64 xrule] 55)) w1.heap.size 55 [.int .i64 xid, .string xname, .string xtype, .int .i64 xkind, .int .i64 xrule] := Box.new w1 _ _
     have hgil1 : ig < w1.heap.size := Nat.lt_of_lt_of_le hgil hb1.size
     have hpv1 : 0 < k → w1.cell? ⟨ig, io + (k - 1), none⟩ = some (.int .i64 ids[k - 1]) := fun h0 => by
      rw [World.cell?_of_block (w := wr) (hb1.block ig hgil)]
      exact Hpv.out h0
     have v3 : w1.cell? ⟨w.heap.size + 1 + 1, 3, none⟩ = some (.slice (some ⟨ig, io, none⟩) ids.length d1) := hbv1.cell 3
     have hlv1 := hbv1.lt
     obtain ⟨so, hso⟩ : ∃ so, so = (fieldOf t id).isSome := ⟨_, rfl⟩
     rw [← hso]
     have Hso := Lib.hid hso
     clear hb1 hbb hbt hbv hbv1 hso hplace hfx Hst0 bt0 bt1 bt2 bt3 bt4 q0 Hpv he
     go_upto_block 2 with fail
     go_cut [] from 51 to 84 (fun wx => Hid (typedGo b t none ids l = if fitsF b ⟨xid, xname, xtype, xkind, xrule⟩ (.mk vk vn vs vi vl) ≠ 0 then fitsF b ⟨xid, xname, xtype, xkind, xrule⟩ (.mk vk vn vs vi vl)
           else if xkind = 5 ∧ typedF b (typeOf b xtype) (.mk vk vn vs vi vl) ≠ 0 then typedF b (typeOf b xtype) (.mk vk vn vs vi vl) else typedGo b t (lastI ids (k + 1)) (ids.drop (k + 1)) (l.drop (k + 1))) ∧ wx = w1.alloc (.cells #[.int .i64 xid, .string xname, .string xtype, .int .i64 xkind, .int .i64 xrule] 55))
     case first =>
      cases so with
      | false =>
       have Hno := Lib.hid (Hret.out 3 (by rw [Hst1.out, place_none Hso.out.symm, if_pos (by decide)]) (by decide))
       clear hpv1
       go_wp2_with fail
       go_ret
       exact ⟨ret_i (by rw [Hno.out]), hw2⟩
      | true =>
       by_cases hk0 : 0 < k
       ·have hpvk := hpv1 hk0
        obtain ⟨y, hye⟩ : ∃ y, y = ids[k - 1] := ⟨_, rfl⟩
        have hlast : lastI ids k = some y := by
         obtain ⟨j, rfl⟩ : ∃ j, k = j + 1 := ⟨k - 1, by go_light; omega⟩
         rw [hye]
         exact List.getElem?_eq_getElem (by go_light; omega)
        rw [hlast, Hplace.out y Hso.out.symm] at Hst1
        rw [← hye] at hpvk
        have e1 : IntKind.i64.wrap ((k : Int) - 1) = (k : Int) - 1 := IntWalk.i64_in _ (by go_light; omega)
        have e2 : ((k : Int) - 1).toNat = k - 1 := by go_light; omega
        clear hpv1 hlast hye
        by_cases hlo : id < y
        ·have Hno := Lib.hid (Hret.out 1 (by rw [Hst1.out, if_pos hlo, if_pos (by decide)]) (by decide))
         go_wp2_with fail
         go_ret
         exact ⟨ret_i (by rw [Hno.out]), hw2⟩
        ·by_cases heq : y = id ∧ xrule ≠ 3
         ·have Hno := Lib.hid (Hret.out 4 (by rw [Hst1.out, if_neg hlo, if_pos heq, if_pos (by decide)]) (by decide))
          obtain ⟨heq1, heq2⟩ := heq
          have hyb : (y == id) = true := by simpa using heq1
          have hrb : (xrule != 3) = true := by simpa using heq2
          clear heq1 heq2
          go_wp2_with fail
          go_ret
          exact ⟨ret_i (by rw [Hno.out]), hw2⟩
         ·have hst2 := Lib.hid (Hst1.out.trans (by rw [if_neg hlo, if_neg heq, if_neg (by simp)]))
          clear Hst1
          by_cases hy1 : y = id
          ·have hr3 : xrule = 3 := by
            by_cases h : xrule = 3
            ·exact h
            ·exact absurd ⟨hy1, h⟩ heq
           have hyb : (y == id) = true := by simpa using hy1
           have hrb : (xrule != 3) = false := by simpa using hr3
           clear heq hy1 hr3
           go_wp2_with fail
           go_meet
           case rel => exact ⟨hst2, rfl⟩
          ·have hyb : (y == id) = false := by simpa using hy1
           clear heq hy1
           go_wp2_with fail
           go_meet
           case rel => exact ⟨hst2, rfl⟩
       ·have hlast : lastI ids k = none := by rw [show k = 0 from by go_light; omega]; rfl
        rw [hlast, place_first Hso.out.symm, if_neg (by simp)] at Hst1
        clear hlast hpv1
        go_wp2_with fail
        go_meet
        case rel => exact ⟨Hst1, rfl⟩
     case rest =>
      obtain ⟨Hst, rfl⟩ := hcut
      clear Hst1 Hso hpv1 v3 hlv1 Hplace
      go_wp2_with fail
      generalize hW : w1.alloc (.cells #[.int .i64 xid, .string xname, .string xtype, .int .i64 xkind, .int .i64 xrule] 55) = W at *
      generalize hXX : w1.heap.size = X at *
      clear hW hXX
      have HSK : Hid (∀ W', Box W' w.heap.size 24 [.slice A b.length cap] → Box W' X 55 [.int .i64 xid, .string xname, .string xtype, .int .i64 xkind, .int .i64 xrule] → Box W' (w.heap.size + 1 + 1) 37 [.int .i64 2, .int .i64 0, .string ⟨#[]⟩, .slice (some ⟨ig, io, none⟩) ids.length d1, .slice (some ⟨lg, lo, none⟩) l.length d2] → Below w.heap.size w W' →
        W'.cell? ⟨w.heap.size, 0, none⟩ = some (.slice A b.length cap) ∧ (W'.cell? ⟨X, 0, none⟩ = some (.int .i64 xid) ∧ W'.cell? ⟨X, 1, none⟩ = some (.string xname) ∧ W'.cell? ⟨X, 2, none⟩ = some (.string xtype) ∧ W'.cell? ⟨X, 3, none⟩ = some (.int .i64 xkind) ∧ W'.cell? ⟨X, 4, none⟩ = some (.int .i64 xrule)) ∧
        W'.cell? ⟨w.heap.size + 1 + 1, 4, none⟩ = some (.slice (some ⟨lg, lo, none⟩) l.length d2) ∧ (W'.cell? ⟨lg, lo + k * 5, none⟩ = some (.int .i64 vk) ∧ W'.cell? ⟨lg, lo + k * 5 + 1, none⟩ = some (.int .i64 vn) ∧ W'.cell? ⟨lg, lo + k * 5 + 2, none⟩ = some (.string vs) ∧ W'.cell? ⟨lg, lo + k * 5 + 3, none⟩ = some (.slice E1 vi.length f1) ∧ W'.cell? ⟨lg, lo + k * 5 + 4, none⟩ = some (.slice E2 vl.length f2))) :=
       fun W' h1 h2 h3 h4 => ⟨h1.cell 0, h2.five, h3.cell 4, by
        have hc := HLs.out.keep (S := Old w) (Keep.of_below h4) hlgw
        exact ⟨hc.at_ 0 rfl, hc.at_ 1 rfl, hc.at_ 2 rfl, hc.at_ 3 rfl, hc.at_ 4 rfl⟩⟩
      have hS := HSK.out W.drew hbb2.drew hx2.drew hbv2.drew (below_drew hw2)
      refine late_start (lt := 7) (hm := by kernel_rfl) (h := ?_) (S := fun W' => W'.cell? ⟨w.heap.size, 0, none⟩ = some (.slice A b.length cap) ∧ (W'.cell? ⟨X, 0, none⟩ = some (.int .i64 xid) ∧ W'.cell? ⟨X, 1, none⟩ = some (.string xname) ∧ W'.cell? ⟨X, 2, none⟩ = some (.string xtype) ∧ W'.cell? ⟨X, 3, none⟩ = some (.int .i64 xkind) ∧ W'.cell? ⟨X, 4, none⟩ = some (.int .i64 xrule)) ∧
        W'.cell? ⟨w.heap.size + 1 + 1, 4, none⟩ = some (.slice (some ⟨lg, lo, none⟩) l.length d2) ∧ (W'.cell? ⟨lg, lo + k * 5, none⟩ = some (.int .i64 vk) ∧ W'.cell? ⟨lg, lo + k * 5 + 1, none⟩ = some (.int .i64 vn) ∧ W'.cell? ⟨lg, lo + k * 5 + 2, none⟩ = some (.string vs) ∧ W'.cell? ⟨lg, lo + k * 5 + 3, none⟩ = some (.slice E1 vi.length f1) ∧ W'.cell? ⟨lg, lo + k * 5 + 4, none⟩ = some (.slice E2 vl.length f2)))
      refine tkL 0 hS ?_
      try simp only [pu]
      refine tkL 1 hS ?_
      try simp only [pu]
      refine tkL 2 hS ?_
      try simp only [pu]
      refine tkL 3 hS ?_
      try simp only [pu]
      refine tkL 4 hS ?_
      try simp only [pu]
      refine tkL 5 hS ?_
      try simp only [pu]
      refine tkL 6 hS ?_
      try simp only [pu]
      refine late_one (i := 7) rfl (by kernel_rfl) (fun K hK => ?_)
      go_simp
      refine (fits_any S S' _ b ⟨xid, xname, xtype, xkind, xrule⟩ _ (.mk vk vn vs vi vl) _ ((RSl.fair RType.fair).below HB.out (below_drew hw2)) (RVal.fair.below HRx.out (below_drew hw2)) HOx.out).mono ?_
      rintro e w3 ⟨rfl, hb3⟩
      refine hK.out _ _ (fun h => absurd h (by decide)) ?_
      clear hK K
      try simp only [pu]
      refine late_one (i := 8) rfl (by kernel_rfl) (fun K hK => ?_)
      go_simp
      refine hK.out _ _ (fun h => absurd h (by decide)) ?_
      clear hK K
      try simp only [pu]
      refine late_done (by kernel_rfl) ?_ _
      have hw3 := below_via (below_drew hw2) hb3 (below_drew hw2).size
      have hbb3 := hbb2.drew.below hb3 hbb2.drew.lt
      have hbt3 := hbt2.drew.below hb3 hbt2.drew.lt
      have hbv3 := hbv2.drew.below hb3 hbv2.drew.lt
      have hx3 := hx2.drew.below hb3 hx2.drew.lt
      clear hS hb3 hbb2 hbt2 hbv2 hx2 hw2
      obtain ⟨fi, hfi⟩ : ∃ fi, fi = fitsF b ⟨xid, xname, xtype, xkind, xrule⟩ (.mk vk vn vs vi vl) := ⟨_, rfl⟩
      rw [← hfi] at Hst ⊢
      clear hfi
      by_cases hfi0 : fi = 0
      ·subst hfi0
       obtain ⟨_, c1, c2, c3, _⟩ := hx3.five
       have hlx := hx3.lt
       by_cases hk5 : xkind = 5
       ·have b5 : (xkind == 5) = true := by simpa using hk5
        have s0 : w3.cell? ⟨w.heap.size, 0, none⟩ = some (.slice A b.length cap) := hbb3.cell 0
        have hlb3 := hbb3.lt
        go_wp2_with fail
        refine (find_any S _ b xtype _ ((RSl.fair RType.fair).below HB.out hw3)).mono ?_
        rintro e w4 ⟨cs4, rfl, hr4, hb4⟩
        obtain ⟨G1, g1, G2, g2, G3, g3, rfl, -, -, -⟩ := hr4.parts
        obtain ⟨ty, hty⟩ : ∃ ty, ty = typeOf b xtype := ⟨_, rfl⟩
        have hty' : (findT b xtype).getD TypeD.zero = ty := hty.symm
        rw [hty'] at hr4 ⊢
        rw [← hty] at Hst
        obtain ⟨okx, hokx⟩ : ∃ okx, okx = (findT b xtype).isSome := ⟨_, rfl⟩
        rw [← hokx]
        clear hty hty' hokx s0 c1 c2 c3
        have hw4 := below_via hw3 hb4 hw3.size
        have hw5 := hw4.alloc hw4.size (.cells #[.string ty.name, .bool ty.enum, .slice G1 ty.fields.length g1, .slice G2 ty.gone.length g2, .slice G3 ty.items.length g3] 46)
        have hbb5 := (hbb3.below hb4 hbb3.lt).alloc (.cells #[.string ty.name, .bool ty.enum, .slice G1 ty.fields.length g1, .slice G2 ty.gone.length g2, .slice G3 ty.items.length g3] 46)
        have hbt5 := (hbt3.below hb4 hbt3.lt).alloc (.cells #[.string ty.name, .bool ty.enum, .slice G1 ty.fields.length g1, .slice G2 ty.gone.length g2, .slice G3 ty.items.length g3] 46)
        have hbv5 := (hbv3.below hb4 hbv3.lt).alloc (.cells #[.string ty.name, .bool ty.enum, .slice G1 ty.fields.length g1, .slice G2 ty.gone.length g2, .slice G3 ty.items.length g3] 46)
        have hy5 : Box (w4.alloc (.cells #[.string ty.name, .bool ty.enum, .slice G1 ty.fields.length g1, .slice G2 ty.gone.length g2, .slice G3 ty.items.length g3] 46)) w4.heap.size 46 [.string ty.name, .bool ty.enum, .slice G1 ty.fields.length g1, .slice G2 ty.gone.length g2, .slice G3 ty.items.length g3] := Box.new w4 _ _
        have HR4 := Lib.hid (RType.fair.keep hr4 ((Keep.of_below hb4).trans (Keep.alloc S w4 (.cells #[.string ty.name, .bool ty.enum, .slice G1 ty.fields.length g1, .slice G2 ty.gone.length g2, .slice G3 ty.items.length g3] 46))))
        clear hr4 hb4 hw4 hbb3 hbt3 hbv3 hx3 hw3
        go_wp2_with fail
        generalize hWW : w4.alloc (.cells #[.string ty.name, .bool ty.enum, .slice G1 ty.fields.length g1, .slice G2 ty.gone.length g2, .slice G3 ty.items.length g3] 46) = V at *
        generalize hYY : w4.heap.size = Y at *
        clear hWW hYY
        have HSV : Hid (∀ W', Box W' w.heap.size 24 [.slice A b.length cap] → Box W' Y 46 [.string ty.name, .bool ty.enum, .slice G1 ty.fields.length g1, .slice G2 ty.gone.length g2, .slice G3 ty.items.length g3] → Box W' (w.heap.size + 1 + 1) 37 [.int .i64 2, .int .i64 0, .string ⟨#[]⟩, .slice (some ⟨ig, io, none⟩) ids.length d1, .slice (some ⟨lg, lo, none⟩) l.length d2] → Below w.heap.size w W' →
          W'.cell? ⟨w.heap.size, 0, none⟩ = some (.slice A b.length cap) ∧ (W'.cell? ⟨Y, 0, none⟩ = some (.string ty.name) ∧ W'.cell? ⟨Y, 1, none⟩ = some (.bool ty.enum) ∧ W'.cell? ⟨Y, 2, none⟩ = some (.slice G1 ty.fields.length g1) ∧ W'.cell? ⟨Y, 3, none⟩ = some (.slice G2 ty.gone.length g2) ∧ W'.cell? ⟨Y, 4, none⟩ = some (.slice G3 ty.items.length g3)) ∧
          W'.cell? ⟨w.heap.size + 1 + 1, 4, none⟩ = some (.slice (some ⟨lg, lo, none⟩) l.length d2) ∧ (W'.cell? ⟨lg, lo + k * 5, none⟩ = some (.int .i64 vk) ∧ W'.cell? ⟨lg, lo + k * 5 + 1, none⟩ = some (.int .i64 vn) ∧ W'.cell? ⟨lg, lo + k * 5 + 2, none⟩ = some (.string vs) ∧ W'.cell? ⟨lg, lo + k * 5 + 3, none⟩ = some (.slice E1 vi.length f1) ∧ W'.cell? ⟨lg, lo + k * 5 + 4, none⟩ = some (.slice E2 vl.length f2))) :=
         fun W' h1 h2 h3 h4 => ⟨h1.cell 0, h2.five, h3.cell 4, by
          have hc := HLs.out.keep (S := Old w) (Keep.of_below h4) hlgw
          exact ⟨hc.at_ 0 rfl, hc.at_ 1 rfl, hc.at_ 2 rfl, hc.at_ 3 rfl, hc.at_ 4 rfl⟩⟩
        have hS := HSV.out V.drew hbb5.drew hy5.drew hbv5.drew (below_drew hw5)
        refine late_start (lt := 7) (hm := by kernel_rfl) (h := ?_) (S := fun W' => W'.cell? ⟨w.heap.size, 0, none⟩ = some (.slice A b.length cap) ∧ (W'.cell? ⟨Y, 0, none⟩ = some (.string ty.name) ∧ W'.cell? ⟨Y, 1, none⟩ = some (.bool ty.enum) ∧ W'.cell? ⟨Y, 2, none⟩ = some (.slice G1 ty.fields.length g1) ∧ W'.cell? ⟨Y, 3, none⟩ = some (.slice G2 ty.gone.length g2) ∧ W'.cell? ⟨Y, 4, none⟩ = some (.slice G3 ty.items.length g3)) ∧
          W'.cell? ⟨w.heap.size + 1 + 1, 4, none⟩ = some (.slice (some ⟨lg, lo, none⟩) l.length d2) ∧ (W'.cell? ⟨lg, lo + k * 5, none⟩ = some (.int .i64 vk) ∧ W'.cell? ⟨lg, lo + k * 5 + 1, none⟩ = some (.int .i64 vn) ∧ W'.cell? ⟨lg, lo + k * 5 + 2, none⟩ = some (.string vs) ∧ W'.cell? ⟨lg, lo + k * 5 + 3, none⟩ = some (.slice E1 vi.length f1) ∧ W'.cell? ⟨lg, lo + k * 5 + 4, none⟩ = some (.slice E2 vl.length f2)))
        refine tkL 0 hS ?_
        try simp only [pu]
        refine tkL 1 hS ?_
        try simp only [pu]
        refine tkL 2 hS ?_
        try simp only [pu]
        refine tkL 3 hS ?_
        try simp only [pu]
        refine tkL 4 hS ?_
        try simp only [pu]
        refine tkL 5 hS ?_
        try simp only [pu]
        refine tkL 6 hS ?_
        try simp only [pu]
        refine late_one (i := 7) rfl (by kernel_rfl) (fun K hK => ?_)
        go_simp
        refine (IH.out _ _ ty (.mk vk vn vs vi vl) _ HDx.out ((RSl.fair RType.fair).below HB.out (below_drew hw5)) (RType.fair.keep HR4.out (Keep.drew _ _)) (RVal.fair.below HRx.out (below_drew hw5)) HOk.out).mono ?_
        rintro e w6 ⟨rfl, hb6⟩
        refine hK.out _ _ (fun h => absurd h (by decide)) ?_
        clear hK K
        try simp only [pu]
        refine late_one (i := 8) rfl (by kernel_rfl) (fun K hK => ?_)
        go_simp
        refine hK.out _ _ (fun h => absurd h (by decide)) ?_
        clear hK K
        try simp only [pu]
        refine late_done (by kernel_rfl) ?_ _
        have hw6 := below_via (below_drew hw5) hb6 (below_drew hw5).size
        have hbb6 := hbb5.drew.below hb6 hbb5.drew.lt
        have hbt6 := hbt5.drew.below hb6 hbt5.drew.lt
        have hbv6 := hbv5.drew.below hb6 hbv5.drew.lt
        clear hS hb6 hbb5 hbt5 hbv5 hy5 hw5
        obtain ⟨tc, htc⟩ : ∃ tc, tc = typedF b ty (.mk vk vn vs vi vl) := ⟨_, rfl⟩
        rw [← htc] at Hst ⊢
        clear htc
        by_cases htc0 : tc = 0
        ·subst htc0
         have he2 : Hid (typedGo b t (lastI ids (k + 1)) (ids.drop (k + 1)) (l.drop (k + 1)) = typedGo b t none ids l) := by
          show _ = _
          rw [Hst.out, if_neg (by simp), if_neg (by simp)]
         clear hk5
         go_wp2_with fail
         go_roundw
         case rel => first | exact ⟨k + 1, by go_num, by go_light; omega, he2, hbb6, hbt6, hbv6, hw6⟩ | ((repeat apply Exists.intro); exact ⟨⟨k + 1, by go_num, by go_light; omega, he2, hbb6, hbt6, hbv6, hw6⟩, rfl⟩)
         case measure => go_light; simp [intOf]; omega
        ·have Hno := Lib.hid (Hret.out tc (by rw [Hst.out, if_neg (by simp), if_pos ⟨hk5, htc0⟩]) htc0)
         have hcb : (tc != 0) = true := by simpa using htc0
         clear htc0 hk5
         go_wp2_with fail
         go_ret
         exact ⟨ret_i (by rw [Hno.out]), hw6⟩
       ·have b5 : (xkind == 5) = false := by simpa using hk5
        have he2 : Hid (typedGo b t (lastI ids (k + 1)) (ids.drop (k + 1)) (l.drop (k + 1)) = typedGo b t none ids l) := by
         show _ = _
         rw [Hst.out, if_neg (by simp), if_neg (fun h => hk5 h.1)]
        clear hk5
        go_wp2_with fail
        go_roundw
        case rel => first | exact ⟨k + 1, by go_num, by go_light; omega, he2, hbb3, hbt3, hbv3, hw3⟩ | ((repeat apply Exists.intro); exact ⟨⟨k + 1, by go_num, by go_light; omega, he2, hbb3, hbt3, hbv3, hw3⟩, rfl⟩)
        case measure => go_light; simp [intOf]; omega
      ·have Hno := Lib.hid (Hret.out fi (by rw [Hst.out, if_pos hfi0]) hfi0)
       have hcb : (fi != 0) = true := by simpa using hfi0
       clear hfi0
       go_wp2_with fail
       go_ret
       exact ⟨ret_i (by rw [Hno.out]), hw3⟩
    ·have hgo : typedGo b t none ids l = 0 := by
      have hdl : l.drop k = [] := List.drop_eq_nil_of_le (by go_light; have := Hll.out; omega)
      rw [← he.out, hdl, typedGo]
     have Hfin : Hid (typedF b t (.mk 2 0 ⟨#[]⟩ ids l) = if fullF t ids = true then 0 else 3) := by
      show _ = _
      rw [Hon.out, if_neg (by rw [hgo]; decide)]
     obtain ⟨bt0, bt1, bt2, bt3, bt4⟩ := hbt.five
     have hltt := hbt.lt
     clear hgo he
     obtain ⟨wo, rfl⟩ : ∃ wo : World, wo = wr := ⟨_, rfl⟩
     go_wp2_with fail
     clear bt0 bt1 bt2 bt3 bt4
     go_loopw [121] (fun i wr => ∃ q : Nat, i = .int .i64 q ∧ q ≤ t.fields.length ∧ Hid ((t.fields.drop q).all (fun f => decide (f.rule ≠ 1) || hasI ids f.id) = fullF t ids) ∧
      Box wr (w.heap.size + 1 + 1) 37 [.int .i64 2, .int .i64 0, .string ⟨#[]⟩, .slice I1 ids.length d1, .slice I2 l.length d2] ∧ Below w.heap.size w wr) (fun i _ => t.fields.length - (intOf i).toNat)
     case atStart => exact ⟨0, rfl, by go_light; omega, rfl, hbv, hb⟩
     case round =>
      clear hbb hbt hbv hb hlt hk hltt
      obtain ⟨q, rfl, hq, hfu, hbv, hb⟩ := hrel
      by_cases hlt : q < t.fields.length
      ·obtain ⟨g, o, rfl, hS, hg⟩ := HF.out.base (by go_light; omega)
       have hc := (HF.out.flat (enc := fieldCells) hlt).keep (Keep.of_below hb) hS
       have hdr : t.fields.drop q = t.fields[q] :: t.fields.drop (q + 1) := List.drop_eq_getElem_cons hlt
       rw [hdr, List.all_cons] at hfu
       obtain ⟨f, hxe⟩ : ∃ x, x = t.fields[q] := ⟨_, rfl⟩
       rw [← hxe] at hc hfu
       obtain ⟨fid, fname, ftype, fkind, frule⟩ := f
       have q0 : wr.cell? ⟨g, o + q * 5, none⟩ = some (.int .i64 fid) := hc.at_ 0 rfl
       have q1 : wr.cell? ⟨g, o + q * 5 + 1, none⟩ = some (.string fname) := hc.at_ 1 rfl
       have q2 : wr.cell? ⟨g, o + q * 5 + 2, none⟩ = some (.string ftype) := hc.at_ 2 rfl
       have q3 : wr.cell? ⟨g, o + q * 5 + 3, none⟩ = some (.int .i64 fkind) := hc.at_ 3 rfl
       have q4 : wr.cell? ⟨g, o + q * 5 + 4, none⟩ = some (.int .i64 frule) := hc.at_ 4 rfl
       have v3 : wr.cell? ⟨w.heap.size + 1 + 1, 3, none⟩ = some (.slice I1 ids.length d1) := hbv.cell 3
       have hlv := hbv.lt
       have hgl : g < wr.heap.size := Nat.lt_of_lt_of_le hg hb.size
       dsimp only at hfu
       clear hc hxe hdr
       have hwa := hb.alloc hb.size (.cells #[.int .i64 fid, .string fname, .string ftype, .int .i64 fkind, .int .i64 frule] 55)
       have hbva := hbv.alloc (.cells #[.int .i64 fid, .string fname, .string ftype, .int .i64 fkind, .int .i64 frule] 55)
       by_cases hr1 : frule = 1
       ·have hrb : (frule == 1) = true := by simpa using hr1
        obtain ⟨hh, hhe⟩ : ∃ h, h = hasI ids fid := ⟨_, rfl⟩
        have hcall := fun W (h : RSl 1 8 RInt S' W [.slice I1 ids.length d1] ids) => has_any S' _ ids fid W h
        rw [← hhe] at hcall hfu
        have hfu2 : Hid ((hh && (t.fields.drop (q + 1)).all (fun f => decide (f.rule ≠ 1) || hasI ids f.id)) = fullF t ids) := by
         show _ = _
         rw [← hfu.out]; simp [hr1]
        have Hcall := Lib.hid hcall
        have HIa := Lib.hid ((RSl.fair RInt.fair).below HI.out hwa)
        clear hfu hr1 hhe hcall
        cases hh with
        | true =>
         have hfu3 : Hid ((t.fields.drop (q + 1)).all (fun f => decide (f.rule ≠ 1) || hasI ids f.id) = fullF t ids) := by show _ = _; rw [← hfu2.out]; simp
         go_wp2_with fail
         refine (Hcall.out _ HIa.out).mono ?_
         rintro e w' ⟨rfl, rfl⟩
         go_wp2_with fail
         go_roundw
         case rel => exact ⟨q + 1, by go_num, by go_light; omega, hfu3, hbva, hwa⟩
         case measure => go_light; simp [intOf]; omega
        | false =>
         have Hno := Lib.hid (show typedF b t (.mk 2 0 ⟨#[]⟩ ids l) = 3 from by rw [Hfin.out, if_neg (by rw [← hfu2.out]; simp)])
         go_wp2_with fail
         refine (Hcall.out _ HIa.out).mono ?_
         rintro e w' ⟨rfl, rfl⟩
         go_wp2_with fail
         go_ret
         exact ⟨ret_i (by rw [Hno.out]), hwa⟩
       ·have hrb : (frule == 1) = false := by simpa using hr1
        have hfu3 : Hid ((t.fields.drop (q + 1)).all (fun f => decide (f.rule ≠ 1) || hasI ids f.id) = fullF t ids) := by show _ = _; rw [← hfu.out]; simp [hr1]
        clear hfu hr1
        go_wp2_with fail
        go_roundw
        case rel => exact ⟨q + 1, by go_num, by go_light; omega, hfu3, hbva, hwa⟩
        case measure => go_light; simp [intOf]; omega
      ·have hdr : t.fields.drop q = [] := List.drop_eq_nil_of_le (by go_light; omega)
       rw [hdr] at hfu
       have Hyes := Lib.hid (show typedF b t (.mk 2 0 ⟨#[]⟩ ids l) = 0 from by rw [Hfin.out, if_pos (by rw [← hfu.out]; rfl)])
       clear hdr hfu
       go_wp2_with fail
       go_ret
       exact ⟨ret_i (by rw [Hyes.out]), hb⟩
 ·have Hno := Lib.hid (typed_no1 (b := b) (t := t) (n := n) (s := s) (ids := ids) (l := l) hk2)
  have hkb : (kind != 2) = true := by simpa using hk2
  clear hk2
  go_wp2_with fail
  go_ret
  exact ⟨ret_i (by rw [Hno.out]), x4⟩
theorem typed_any (S S' : Nat → Prop) (vb : Value) (b : BookD) : ∀ (d : Nat), TypedAt S S' vb b d
 | 0 => fun _ _ _ v _ hd _ _ _ _ => by
  obtain ⟨kind, n, s, ids, l⟩ := v
  rw [depthV] at hd; omega
 | d + 1 => typed_succ S S' vb b d (typed_any S S' vb b d)
end Go.Proofs.YtfidfakcbjoilaaGreatDoor
