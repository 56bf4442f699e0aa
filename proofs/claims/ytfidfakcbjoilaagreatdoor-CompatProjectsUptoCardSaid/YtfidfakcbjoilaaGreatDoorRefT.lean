/- Several texts of walks and laws in one file; what each proves stands at its head. -/
import Derived.Test.YtfidfakcbjoilaaGreatDoorRefSingle
import Derived.Test.YtfidfakcbjoilaaGreatDoorRefMessage
import Derived.Test.YtfidfakcbjoilaaGreatDoorValueTyped
import Derived.Test.YtfidfakcbjoilaaGreatDoorValueTypedF
set_option linter.all false
set_option maxRecDepth 100000
set_option maxHeartbeats 8000000
namespace Go.Proofs.YtfidfakcbjoilaaGreatDoor
open Go.RowKit
attribute [local go_sem ↓] Go.wp_at_zero Go.wp_at_succ
theorem fieldIn_out (S : Nat → Prop) (cs : List Value) (t : TypeD) (id : Int) (w : World) (ht : RType S w cs t) :
  Calls Tryz.prog 50 #[.agg cs.toArray, .int .i64 id] w (FieldOfPost w (fieldOf t id)) :=
 (fieldIn_any S cs t id w ht).mono fun _ _ ⟨he, hb⟩ => ⟨_, rfl, he, hb⟩
def KindsOk (b : BookD) : Prop := ∀ t ∈ b, ∀ f ∈ t.fields, 0 ≤ f.kind ∧ f.kind ≤ 5
theorem kinds_of_good {b : BookD} (hg : goodF b = 0) : KindsOk b := by
 intro t ht f hf
 cases he : t.enum with
 | false =>
  have h := msg_field (good_msg hg ht he) hf
  unfold fieldP at h
  omega
 | true =>
  have h := good_enum hg ht he
  unfold EnumP at h
  have : t.fields = [] := by
   cases hq : t.fields with
   | nil => rfl
   | cons a l => simp [hq] at h
  rw [this] at hf; cases hf
theorem kind_of {b : BookD} (hk : KindsOk b) (name : ByteArray) (id : Int) : 0 ≤ ((fieldOf (typeOf b name) id).getD .zero).kind ∧ ((fieldOf (typeOf b name) id).getD .zero).kind ≤ 5 := by
 cases hf : fieldOf (typeOf b name) id with
 | none => exact ⟨by decide, by decide⟩
 | some f =>
  have h1 := (fieldOf_some hf).1
  unfold typeOf at h1
  cases ht : findT b name with
  | none => rw [ht] at h1; cases h1
  | some t =>
   rw [ht] at h1
   exact hk t (findT_some ht).1 f h1
theorem newFieldI {B : Nat} {a w : World} (_ : Below B a w) : Box (w.alloc (.cells #[.int .i64 0, .string ⟨#[]⟩, .string ⟨#[]⟩, .int .i64 0, .int .i64 0] 55)) w.heap.size 55 [.int .i64 0, .string ⟨#[]⟩, .string ⟨#[]⟩, .int .i64 0, .int .i64 0] := Box.new _ _ _
def InsideAt (S S' : Nat → Prop) (vb : Value) (b : BookD) (d : Nat) : Prop := ∀ (name : ByteArray) (cs : List Value) (v : ValueD) (w : World), depthV v ≤ d → RSl 5 96 RType S w [vb] b → RVal S' w cs v → okV v →
  Calls Tryz.prog 56 #[.agg #[vb], .string name, .agg cs.toArray] w (Ret w (.int .i64 (typedF b (typeOf b name) v)))
theorem inside_succ (S S' : Nat → Prop) (vb : Value) (b : BookD) (hkd : KindsOk b) (d : Nat) (IH0 : InsideAt S S' vb b d) : InsideAt S S' vb b (d + 1) := by
 intro name cs v w hd hb0 hr hok
 have HV := Lib.hid hr
 obtain ⟨kind, n, s, ids, l⟩ := v
 obtain ⟨A, cap, rfl, hlc, hlb⟩ := hb0.form
 obtain ⟨I1, d1, I2, d2, rfl, hri, hrl⟩ := hr.parts
 obtain ⟨_, _, _, hic, hib⟩ := hri.form
 obtain ⟨_, _, _, hlc2, hlb2⟩ := hrl.form
 have IH := Lib.hid IH0
 have HB := Lib.hid hb0
 have HI := Lib.hid hri
 have HL := Lib.hid hrl
 rw [depthV] at hd
 rw [okV] at hok
 have HD := Lib.hid (fun x (hx : x ∈ l) => (show depthV x ≤ d from by go_light; have := depthL_mem' hx; omega))
 have HO := Lib.hid (fun x (hx : x ∈ l) => okL_mem hok.2 hx)
 have hss : s.size ≤ 140737488351232 := hok.1
 have HK := Lib.hid (fun id => kind_of hkd name id)
 obtain ⟨x1, x2, x3⟩ := boxes2 w [.slice A b.length cap] [.int .i64 kind, .int .i64 n, .string s, .slice I1 ids.length d1, .slice I2 l.length d2] 24 37
 obtain ⟨ty, hty⟩ : ∃ ty, ty = typeOf b name := ⟨_, rfl⟩
 rw [← hty] at HK ⊢
 have Hty := Lib.hid hty
 clear hb0 hr hri hrl hd hok hkd hty
 go_enter Tryz.func56, Tryz.ntmps56
 go_wp2_with fail
 refine (typeOf_any S _ b name _ ((RSl.fair RType.fair).below HB.out x3)).mono ?_
 rintro e wt ⟨cs3, rfl, hr3, hb1⟩
 obtain ⟨A1, k1, A2, k2, A3, k3, rfl, hf, -, -⟩ := hr3.parts
 obtain ⟨_, _, _, hflc, hflb⟩ := hf.form
 have hw1 := below_via x3 hb1 x3.size
 have y1 := x1.below hb1 x1.lt
 have y2 := x2.below hb1 x2.lt
 have hty' : (findT b name).getD TypeD.zero = ty := Hty.out.symm
 rw [hty'] at hr3 hf hflc hflb ⊢
 obtain ⟨okt, hokt⟩ : ∃ ok, ok = (findT b name).isSome := ⟨_, rfl⟩
 rw [← hokt]
 have hw2 := hw1.alloc hw1.size (.cells #[.string ty.name, .bool ty.enum, .slice A1 ty.fields.length k1, .slice A2 ty.gone.length k2, .slice A3 ty.items.length k3] 46)
 have z1 := y1.alloc (.cells #[.string ty.name, .bool ty.enum, .slice A1 ty.fields.length k1, .slice A2 ty.gone.length k2, .slice A3 ty.items.length k3] 46)
 have z2 := y2.alloc (.cells #[.string ty.name, .bool ty.enum, .slice A1 ty.fields.length k1, .slice A2 ty.gone.length k2, .slice A3 ty.items.length k3] 46)
 have z3 : Box (wt.alloc (.cells #[.string ty.name, .bool ty.enum, .slice A1 ty.fields.length k1, .slice A2 ty.gone.length k2, .slice A3 ty.items.length k3] 46)) wt.heap.size 46 [.string ty.name, .bool ty.enum, .slice A1 ty.fields.length k1, .slice A2 ty.gone.length k2, .slice A3 ty.items.length k3] := Box.new wt _ _
 have HT := Lib.hid (RType.fair.keep hr3 (Keep.of_below (hb1.alloc hb1.size (.cells #[.string ty.name, .bool ty.enum, .slice A1 ty.fields.length k1, .slice A2 ty.gone.length k2, .slice A3 ty.items.length k3] 46))))
 have HF := Lib.hid ((RSl.fair RField.fair).keep hf (Keep.of_below (hb1.alloc hb1.size (.cells #[.string ty.name, .bool ty.enum, .slice A1 ty.fields.length k1, .slice A2 ty.gone.length k2, .slice A3 ty.items.length k3] 46))))
 obtain ⟨u0, u1, u2, u3, u4⟩ := y2.five
 have hl2 := y2.lt
 clear hf hb1 hty' hokt hr3 x1 x2 x3 y1 y2 hw1
 by_cases hk2 : kind = 2
 ·subst hk2
  by_cases hodd : ids.length ≠ l.length ∨ n ≠ 0 ∨ s.size ≠ 0
  ·have Hno := Lib.hid (typed_no2 (b := b) (t := ty) hodd)
   by_cases ho1 : ids.length = l.length
   ·by_cases ho2 : n = 0
    ·have hs : (s.toList == []) = false := by
      cases hq : s.toList with
      | nil => exact absurd (by rw [ByteArray.toList_eq] at hq; exact congrArg List.length hq) (show s.size ≠ 0 by go_light; omega)
      | cons a l => rfl
     have hll : ((ids.length : Int) != l.length) = false := by go_light; simp; omega
     have hnn : (n != 0) = false := by simp [ho2]
     clear hodd ho1 ho2
     go_wp2_with fail
     go_ret
     exact ⟨ret_i (by rw [Hno.out]), hw2⟩
    ·have hll : ((ids.length : Int) != l.length) = false := by go_light; simp; omega
     have hnn : (n != 0) = true := by simpa using ho2
     clear hodd ho1 ho2
     go_wp2_with fail
     go_ret
     exact ⟨ret_i (by rw [Hno.out]), hw2⟩
   ·have hll : ((ids.length : Int) != l.length) = true := by go_light; simp; omega
    clear hodd ho1
    go_wp2_with fail
    go_ret
    exact ⟨ret_i (by rw [Hno.out]), hw2⟩
  ·have Hon := Lib.hid (typed_on (b := b) (t := ty) hodd)
   have hll : ids.length = l.length := by go_light; omega
   obtain rfl : n = 0 := by go_light; omega
   obtain rfl : s = ⟨#[]⟩ := ba_size0' (by go_light; omega)
   clear hodd
   have Hll := Lib.hid hll
   have hlb : ((ids.length : Int) != l.length) = false := by go_light; simp; omega
   clear hll
   go_wp2_with fail
   obtain ⟨W1, hW1⟩ : ∃ W, W = wt.alloc (.cells #[.string ty.name, .bool ty.enum, .slice A1 ty.fields.length k1, .slice A2 ty.gone.length k2, .slice A3 ty.items.length k3] 46) := ⟨_, rfl⟩
   obtain ⟨XT, hXT⟩ : ∃ X, X = wt.heap.size := ⟨_, rfl⟩
   rw [← hW1] at hw2 z1 z2 z3 HT HF ⊢
   rw [← hXT] at z3 ⊢
   clear hW1 hXT u0 u1 u2 u3 u4 hl2
   go_loopw [45] (fun i wr => ∃ k : Nat, i = .int .i64 k ∧ k ≤ ids.length ∧ Hid (typedGo b ty (lastI ids k) (ids.drop k) (l.drop k) = typedGo b ty none ids l) ∧
    Box wr w.heap.size 24 [.slice A b.length cap] ∧ Box wr XT 46 [.string ty.name, .bool ty.enum, .slice A1 ty.fields.length k1, .slice A2 ty.gone.length k2, .slice A3 ty.items.length k3] ∧ Box wr (w.heap.size + 1) 37 [.int .i64 2, .int .i64 0, .string ⟨#[]⟩, .slice I1 ids.length d1, .slice I2 l.length d2] ∧ Below W1.heap.size W1 wr) (fun i _ => ids.length - (intOf i).toNat)
   case atStart => exact ⟨0, rfl, by go_light; omega, rfl, z1, z3, z2, Below.refl _ _⟩
   case round =>
    obtain ⟨k, rfl, hk, he, hbb, hbt, hbv, hb1⟩ := hrel
    have hb := below_via hw2 hb1 hw2.size
    clear z1 z2 z3
    by_cases hlt : k < ids.length
    ·--[LOOP
     have hkl : k < l.length := by go_light; have := Hll.out; omega
     obtain ⟨ig, io, rfl, hSi, hgi⟩ := HI.out.base (by go_light; omega)
     obtain ⟨lg, lo, rfl, hSl, hlgw⟩ := HL.out.base (by go_light; omega)
     have hci := (HI.out.flat (enc := fun x : Int => [.int .i64 x]) hlt).keep (Keep.of_below hb) hSi
     obtain ⟨es, _, hrx, hlies⟩ := HL.out.lies hkl
     have hst := typedGo_step (b := b) (t := ty) hkl Hll.out
     have hdx := HD.out l[k] (List.getElem_mem hkl)
     have hox := HO.out l[k] (List.getElem_mem hkl)
     have hpv : 0 < k → wr.cell? ⟨ig, io + (k - 1), none⟩ = some (.int .i64 ids[k - 1]) := fun h0 => by
      have := ((HI.out.flat (enc := fun x : Int => [.int .i64 x]) (show k - 1 < ids.length by go_light; omega)).keep (Keep.of_below hb) hSi).at_ 0 rfl
      simpa using this
     obtain ⟨id, hid⟩ : ∃ id, id = ids[k] := ⟨_, rfl⟩
     obtain ⟨x, hx⟩ : ∃ x, x = l[k] := ⟨_, rfl⟩
     rw [← hid] at hci hst
     rw [← hx] at hrx hst hdx hox
     rw [he.out] at hst
     obtain ⟨vk, vn, vs, vi, vl⟩ := x
     obtain ⟨E1, f1, E2, f2, rfl, _, _⟩ := hrx.parts
     have q0 : wr.cell? ⟨ig, io + k, none⟩ = some (.int .i64 id) := by have := hci.at_ 0 rfl; simpa using this
     have hgil : ig < wr.heap.size := Nat.lt_of_lt_of_le hgi hb.size
     have HLs := Lib.hid hlies
     have HRx := Lib.hid hrx
     have HDx := Lib.hid hdx
     have HOk := Lib.hid hox
     have hos : vs.size ≤ 140737488351232 := by rw [okV] at hox; exact hox.1
     have HOx : Hid ((ValueD.mk vk vn vs vi vl).s.size ≤ 140737488351232) := hos
     have Hst0 := Lib.hid hst
     have Hret : Hid (∀ e, typedGo b ty none ids l = e → e ≠ 0 → typedF b ty (.mk 2 0 ⟨#[]⟩ ids l) = e) := fun e h1 h2 => by rw [Hon.out, if_pos (by rw [h1]; exact h2), h1]
     obtain ⟨bt0, bt1, bt2, bt3, bt4⟩ := hbt.five
     have hltt := hbt.lt
     have v3 : wr.cell? ⟨w.heap.size + 1, 3, none⟩ = some (.slice (some ⟨ig, io, none⟩) ids.length d1) := hbv.cell 3
     have hlv := hbv.lt
     have Hpv := Lib.hid hpv
     clear hci hrx hst hdx hox hos hid hx hlies hpv
     go_upto_region 9 with fail
     have hSK : ∀ W', RowKit.Below wr.heap.size wr W' → (W'.cell? ⟨XT, 0, none⟩ = some (.string ty.name) ∧ W'.cell? ⟨XT, 1, none⟩ = some (.bool ty.enum) ∧ W'.cell? ⟨XT, 2, none⟩ = some (.slice A1 ty.fields.length k1) ∧ W'.cell? ⟨XT, 3, none⟩ = some (.slice A2 ty.gone.length k2) ∧ W'.cell? ⟨XT, 4, none⟩ = some (.slice A3 ty.items.length k3)) ∧ W'.cell? ⟨w.heap.size + 1, 3, none⟩ = some (.slice (some ⟨ig, io, none⟩) ids.length d1) ∧ W'.cell? ⟨ig, io + k, none⟩ = some (.int .i64 id) := fun W' h => ⟨(hbt.below h hbt.lt).five, (hbv.below h hbv.lt).cell 3, (World.cell?_of_block (h.block ig hgil)).trans q0⟩
     have HSK := Lib.hid hSK
     have hfd := fun W' (h : RowKit.Below wr.heap.size wr W') => fieldIn_any S [.string ty.name, .bool ty.enum, .slice A1 ty.fields.length k1, .slice A2 ty.gone.length k2, .slice A3 ty.items.length k3] ty id W' (RType.fair.keep HT.out (Keep.of_below (below_via hb1 h hb1.size)))
     have hKx := HK.out id
     obtain ⟨fx, hfx⟩ : ∃ fx, fx = (fieldOf ty id).getD .zero := ⟨_, rfl⟩
     obtain ⟨so, hso⟩ : ∃ so, so = (fieldOf ty id).isSome := ⟨_, rfl⟩
     unfold FieldPost at hfd
     rw [← hfx, ← hso] at hfd
     rw [← hfx] at hKx
     have Hst1 : Hid (typedGo b ty none ids l = if placeF ty (lastI ids k) id ≠ 0 then placeF ty (lastI ids k) id else if fitsF b fx (.mk vk vn vs vi vl) ≠ 0 then fitsF b fx (.mk vk vn vs vi vl)
       else if fx.kind = 5 ∧ typedF b (typeOf b fx.type) (.mk vk vn vs vi vl) ≠ 0 then typedF b (typeOf b fx.type) (.mk vk vn vs vi vl) else typedGo b ty (lastI ids (k + 1)) (ids.drop (k + 1)) (l.drop (k + 1))) := by
      show _ = _
      rw [hfx]
      exact Hst0.out
     have hplace : ∀ y, (fieldOf ty id).isSome = true → placeF ty (some y) id = if id < y then 1 else if y = id ∧ fx.rule ≠ 3 then 4 else 0 := fun y h => by
      rw [place_next h, hfx]
     obtain ⟨xid, xname, xtype, xkind, xrule⟩ := fx
     dsimp only at Hst1 hplace hKx
     unfold fieldCells at hfd
     dsimp only at hfd
     have HFD := Lib.hid hfd
     have Hplace := Lib.hid hplace
     have HKx := Lib.hid hKx
     have Hso := Lib.hid hso
     clear hSK hfd hplace hKx hso hfx Hst0 he bt0 bt1 bt2 bt3 bt4 v3
     go_cut [10, 11] from 48 to 57 (fun p s W' => ∃ g, p = .pointer (some ⟨g, 0, none⟩) ∧ s = .bool so ∧ wr.heap.size ≤ g ∧ Box W' g 55 [.int .i64 xid, .string xname, .string xtype, .int .i64 xkind, .int .i64 xrule] ∧ RowKit.Below wr.heap.size wr W')
     case first =>
      have hB := below_drew (Below.refl wr.heap.size wr)
      have hS := HSK.out _ hB
      refine late_start (fun W' => (W'.cell? ⟨XT, 0, none⟩ = some (.string ty.name) ∧ W'.cell? ⟨XT, 1, none⟩ = some (.bool ty.enum) ∧ W'.cell? ⟨XT, 2, none⟩ = some (.slice A1 ty.fields.length k1) ∧ W'.cell? ⟨XT, 3, none⟩ = some (.slice A2 ty.gone.length k2) ∧ W'.cell? ⟨XT, 4, none⟩ = some (.slice A3 ty.items.length k3)) ∧ W'.cell? ⟨w.heap.size + 1, 3, none⟩ = some (.slice (some ⟨ig, io, none⟩) ids.length d1) ∧ W'.cell? ⟨ig, io + k, none⟩ = some (.int .i64 id)) 12 (by kernel_rfl) ?_
      generalize wr.drew = Wb at hB hS ⊢
      refine tkL 0 hS ?_
      try simp only [pu]
      refine tkL 1 hS ?_
      try simp only [pu]
      refine tkL 2 hS ?_
      try simp only [pu]
      refine tkL 3 hS ?_
      try simp only [pu]
      refine tkL 4 hS ?_
      try simp only [pu]
      refine tkL 5 hS ?_
      try simp only [pu]
      refine late_two (i := 6) (j := 10) rfl rfl (by kernel_rfl) (fun K hK => ?_) (fun K hK => ?_)
      ·go_simp
       refine (HFD.out _ hB).mono ?_
       rintro e wn ⟨rfl, hbn⟩
       replace hB := below_via hB hbn hB.size
       clear hS
       have hS := HSK.out _ hB
       refine hK.out _ _ (fun _ => hS) ?_
       clear hK K
       try simp only [pu]
       refine tkL 7 hS ?_
       try simp only [pu]
       refine tkL 8 hS ?_
       try simp only [pu]
       refine tkL 9 hS ?_
       try simp only [pu]
       refine late_one (i := 10) rfl (by kernel_rfl) (fun K hK => ?_)
       go_simp
       have hG := newFieldI hB
       have hGl := hB.size
       try simp only [drew_size] at hG hGl
       replace hB := hB.alloc hB.size (.cells #[.int .i64 0, .string ⟨#[]⟩, .string ⟨#[]⟩, .int .i64 0, .int .i64 0] 55)
       clear hS
       have hS := HSK.out _ hB
       refine hK.out _ _ (fun _ => hS) ?_
       clear hK K
       try simp only [pu]
       generalize (World.alloc _ (.cells #[.int .i64 0, .string ⟨#[]⟩, .string ⟨#[]⟩, .int .i64 0, .int .i64 0] 55)) = WW at hB hG hS ⊢
       obtain ⟨r0, r1, r2, r3, r4⟩ := hG.five
       have g0 := hG.frozen 0
       have g1 := hG.frozen 1
       have g2 := hG.frozen 2
       have g3 := hG.frozen 3
       have g4 := hG.frozen 4
       have hlr := hG.lt
       refine late_one (i := 11) rfl (by kernel_rfl) (fun K hK => ?_)
       go_simp
       clear r0 r1 r2 r3 r4 g0 g1 g2 g3 g4
       replace hB := below_setCells hGl [.int .i64 xid, .string xname, .string xtype, .int .i64 xkind, .int .i64 xrule] 0 _ hB
       replace hG := hG.setCells [.int .i64 xid, .string xname, .string xtype, .int .i64 xkind, .int .i64 xrule] rfl
       clear hS hlr
       change K _ (setCells _ _ 0 [.int .i64 xid, .string xname, .string xtype, .int .i64 xkind, .int .i64 xrule])
       generalize setCells _ _ 0 [.int .i64 xid, .string xname, .string xtype, .int .i64 xkind, .int .i64 xrule] = W5 at hB hG ⊢
       have hS := HSK.out _ hB
       refine hK.out _ _ (fun _ => hS) ?_
       clear hK K
       try simp only [pu]
       refine late_one (i := 12) rfl (by kernel_rfl) (fun K hK => ?_)
       go_simp
       refine hK.out _ _ (fun h => absurd h (by decide)) ?_
       clear hK K
       try simp only [pu]
       refine late_done (by kernel_rfl) ?_ _
       go_wp2_with fail
       go_meet
       case rel => exact ⟨_, rfl, rfl, hGl, hG, hB⟩
      ·go_simp
       have hG := newFieldI hB
       have hGl := hB.size
       try simp only [drew_size] at hG hGl
       replace hB := hB.alloc hB.size (.cells #[.int .i64 0, .string ⟨#[]⟩, .string ⟨#[]⟩, .int .i64 0, .int .i64 0] 55)
       clear hS
       have hS := HSK.out _ hB
       refine hK.out _ _ (fun _ => hS) ?_
       clear hK K
       try simp only [pu]
       generalize (World.alloc _ (.cells #[.int .i64 0, .string ⟨#[]⟩, .string ⟨#[]⟩, .int .i64 0, .int .i64 0] 55)) = WW at hB hG hS ⊢
       refine late_one (i := 6) rfl (by kernel_rfl) (fun K hK => ?_)
       go_simp
       refine (HFD.out _ hB).mono ?_
       rintro e wn ⟨rfl, hbn⟩
       replace hB := below_via hB hbn hB.size
       replace hG := hG.below hbn hG.lt
       clear hS hbn
       have hS := HSK.out _ hB
       refine hK.out _ _ (fun _ => hS) ?_
       clear hK K
       try simp only [pu]
       refine tkL 7 hS ?_
       try simp only [pu]
       refine tkL 8 hS ?_
       try simp only [pu]
       refine tkL 9 hS ?_
       try simp only [pu]
       obtain ⟨r0, r1, r2, r3, r4⟩ := hG.five
       have g0 := hG.frozen 0
       have g1 := hG.frozen 1
       have g2 := hG.frozen 2
       have g3 := hG.frozen 3
       have g4 := hG.frozen 4
       have hlr := hG.lt
       refine late_one (i := 11) rfl (by kernel_rfl) (fun K hK => ?_)
       go_simp
       clear r0 r1 r2 r3 r4 g0 g1 g2 g3 g4
       replace hB := below_setCells hGl [.int .i64 xid, .string xname, .string xtype, .int .i64 xkind, .int .i64 xrule] 0 _ hB
       replace hG := hG.setCells [.int .i64 xid, .string xname, .string xtype, .int .i64 xkind, .int .i64 xrule] rfl
       clear hS hlr
       change K _ (setCells _ _ 0 [.int .i64 xid, .string xname, .string xtype, .int .i64 xkind, .int .i64 xrule])
       generalize setCells _ _ 0 [.int .i64 xid, .string xname, .string xtype, .int .i64 xkind, .int .i64 xrule] = W5 at hB hG ⊢
       have hS := HSK.out _ hB
       refine hK.out _ _ (fun _ => hS) ?_
       clear hK K
       try simp only [pu]
       refine late_one (i := 12) rfl (by kernel_rfl) (fun K hK => ?_)
       go_simp
       refine hK.out _ _ (fun h => absurd h (by decide)) ?_
       clear hK K
       try simp only [pu]
       refine late_done (by kernel_rfl) ?_ _
       go_wp2_with fail
       go_meet
       case rel => exact ⟨_, rfl, rfl, hGl, hG, hB⟩
     case rest =>
      obtain ⟨X, rfl, rfl, hXl, hX0, hbw0⟩ := hcut
      obtain ⟨W, hWe⟩ : ∃ V, V = wc := ⟨_, rfl⟩
      subst hWe
      have hbb2 := hbb.below hbw0 hbb.lt
      have hbt2 := hbt.below hbw0 hbt.lt
      have hbv2 := hbv.below hbw0 hbv.lt
      have hb2 := below_via hb1 hbw0 hb1.size
      have hw3 := below_via hw2 hb2 hw2.size
      have hx2 := hX0
      have hpv1 : 0 < k → W.cell? ⟨ig, io + (k - 1), none⟩ = some (.int .i64 ids[k - 1]) := fun h0 => (World.cell?_of_block (hbw0.block ig hgil)).trans (Hpv.out h0)
      have q1 : W.cell? ⟨ig, io + k, none⟩ = some (.int .i64 id) := (HSK.out _ hbw0).2.2
      have v3 : W.cell? ⟨w.heap.size + 1, 3, none⟩ = some (.slice (some ⟨ig, io, none⟩) ids.length d1) := hbv2.cell 3
      have hgil1 : ig < W.heap.size := Nat.lt_of_lt_of_le hgil hbw0.size
      have hlv1 := hbv2.lt
      clear HSK HFD hX0 hbb hbt hbv hb1 hb q0 Hpv hbw0 hltt hlv hgil
      obtain ⟨y, hye⟩ : ∃ y, y = ids.getD (k - 1) 0 := ⟨_, rfl⟩
      have hyk : ∀ h0 : k - 1 < ids.length, ids[k - 1] = y := fun h0 => by rw [hye, List.getD_eq_getElem?_getD, List.getElem?_eq_getElem h0]; rfl
      have hpv2 : 0 < k → W.cell? ⟨ig, io + (k - 1), none⟩ = some (.int .i64 y) := fun h0 => by rw [← hyk (by go_light; omega)]; exact hpv1 h0
      obtain ⟨bad1, hbd1⟩ : ∃ c, c = (decide (0 < k) && decide (id < y)) := ⟨_, rfl⟩
      obtain ⟨bad2, hbd2⟩ : ∃ c, c = (decide (0 < k) && (decide (y = id) && decide (xrule ≠ 3))) := ⟨_, rfl⟩
      have hpl : so = true → placeF ty (lastI ids k) id = if bad1 = true then 1 else if bad2 = true then 4 else 0 := fun h0 => by
       rw [Hso.out] at h0
       by_cases hk0 : 0 < k
       ·have hlast : lastI ids k = some y := by
         obtain ⟨j, rfl⟩ : ∃ j, k = j + 1 := ⟨k - 1, by go_light; omega⟩
         rw [← hyk (by go_light; omega)]
         exact List.getElem?_eq_getElem (by go_light; omega)
        rw [hlast, Hplace.out y h0, hbd1, hbd2]
        simp [hk0]
       ·have hlast : lastI ids k = none := by rw [show k = 0 from by go_light; omega]; rfl
        rw [hlast, place_first h0, hbd1, hbd2]
        simp [hk0]
      have Hpl := Lib.hid hpl
      have Hbd1 := Lib.hid hbd1
      have Hbd2 := Lib.hid hbd2
      have Hpv1 := Lib.hid hpv2
      clear hpv1 hpv2 hyk hye hpl hbd1 hbd2 Hplace
      cases so with
      | false =>
       have Hno := Lib.hid (Hret.out 3 (by rw [Hst1.out, place_none Hso.out.symm, if_pos (by decide)]) (by decide))
       go_wp2_with fail
       go_ret
       exact ⟨ret_i (by rw [Hno.out]), hw3⟩
      | true =>
       have Hst2 : Hid (typedGo b ty none ids l = if (if bad1 = true then (1 : Int) else if bad2 = true then 4 else 0) ≠ 0 then (if bad1 = true then (1 : Int) else if bad2 = true then 4 else 0) else if fitsF b ⟨xid, xname, xtype, xkind, xrule⟩ (.mk vk vn vs vi vl) ≠ 0 then fitsF b ⟨xid, xname, xtype, xkind, xrule⟩ (.mk vk vn vs vi vl)
         else if xkind = 5 ∧ typedF b (typeOf b xtype) (.mk vk vn vs vi vl) ≠ 0 then typedF b (typeOf b xtype) (.mk vk vn vs vi vl) else typedGo b ty (lastI ids (k + 1)) (ids.drop (k + 1)) (l.drop (k + 1))) := by
        show _ = _
        rw [← Hpl.out rfl]; exact Hst1.out
       clear Hst1 Hpl
       go_upto_region 12 with fail
       go_cut [75] from 60 to 75 (fun s wx => s = .bool bad1 ∧ wx = W.drew)
       case first =>
        by_cases hk0 : 0 < k
        ·have pv := Hpv1.out hk0
         have e1 : IntKind.i64.wrap ((k : Int) - 1) = (k : Int) - 1 := IntWalk.i64_in _ (by go_light; omega)
         have e2 : ((k : Int) - 1).toNat = k - 1 := by go_light; omega
         have e3 : decide (0 < k) = true := by go_light; simp; omega
         have e4 : (1 : Int) ≤ k := by go_light; omega
         have e5 : (k : Int) - 1 < ids.length := by go_light; omega
         have hfin : Hid (bad1 = decide (id < y)) := by show _ = _; rw [Hbd1.out]; simp [hk0]
         have hS : World.cell? (W.drew) ⟨w.heap.size + 1, 3, none⟩ = some (.slice (some ⟨ig, io, none⟩) ids.length d1) ∧ World.cell? (W.drew) ⟨ig, io + k, none⟩ = some (.int .i64 id) ∧ World.cell? (W.drew) ⟨ig, io + (k - 1), none⟩ = some (.int .i64 y) := ⟨v3, q1, pv⟩
         clear pv v3 q1
         refine late_start (lt := 16) (hm := by kernel_rfl) (h := ?_) (S := fun W' => World.cell? (W') ⟨w.heap.size + 1, 3, none⟩ = some (.slice (some ⟨ig, io, none⟩) ids.length d1) ∧ World.cell? (W') ⟨ig, io + k, none⟩ = some (.int .i64 id) ∧ World.cell? (W') ⟨ig, io + (k - 1), none⟩ = some (.int .i64 y))
         refine tkL 0 hS ?_
         try simp only [pu]
         refine tkL 1 hS ?_
         try simp only [pu]
         refine tkL 2 hS ?_
         try simp only [pu]
         refine tkL 3 hS ?_
         try simp only [pu]
         refine tkL 4 hS ?_
         try simp only [pu]
         refine tkL 5 hS ?_
         try simp only [pu]
         refine tkL 6 hS ?_
         try simp only [pu]
         refine tkL 7 hS ?_
         try simp only [pu]
         refine tkL 8 hS ?_
         try simp only [pu]
         refine tkL 9 hS ?_
         try simp only [pu]
         refine tkL 10 hS ?_
         try simp only [pu]
         refine tkL 11 hS ?_
         try simp only [pu]
         refine tkL 12 hS ?_
         try simp only [pu]
         refine tkL 13 hS ?_
         try simp only [pu]
         refine tkL 14 hS ?_
         try simp only [pu]
         refine tkL 15 hS ?_
         try simp only [pu]
         refine late_done (by kernel_rfl) ?_ _
         go_wp2_with fail
         go_meet
         case rel => exact ⟨by rw [hfin.out], rfl⟩
        ·have e3 : decide (0 < k) = false := by go_light; simp; omega
         have hfin : Hid (bad1 = false) := by show _ = _; rw [Hbd1.out]; simp [hk0]
         have hS : True := trivial
         refine late_start (lt := 16) (hm := by kernel_rfl) (h := ?_) (S := fun _ => True)
         refine tkL 0 hS ?_
         try simp only [pu]
         refine tkL 1 hS ?_
         try simp only [pu]
         refine tkL 2 hS ?_
         try simp only [pu]
         refine skL 3 hS ?_
         try simp only [pu]
         refine skL 4 hS ?_
         try simp only [pu]
         refine skL 5 hS ?_
         try simp only [pu]
         refine skL 6 hS ?_
         try simp only [pu]
         refine skL 7 hS ?_
         try simp only [pu]
         refine skL 8 hS ?_
         try simp only [pu]
         refine skL 9 hS ?_
         try simp only [pu]
         refine skL 10 hS ?_
         try simp only [pu]
         refine skL 11 hS ?_
         try simp only [pu]
         refine skL 12 hS ?_
         try simp only [pu]
         refine skL 13 hS ?_
         try simp only [pu]
         refine skL 14 hS ?_
         try simp only [pu]
         refine tkL 15 hS ?_
         try simp only [pu]
         refine late_done (by kernel_rfl) ?_ _
         go_wp2_with fail
         go_meet
         case rel => exact ⟨by rw [hfin.out], rfl⟩
       case rest =>
        obtain ⟨rfl, rfl⟩ := hcut
        replace hbb2 := hbb2.drew
        replace hbt2 := hbt2.drew
        replace hbv2 := hbv2.drew
        replace hx2 := hx2.drew
        replace hb2 := below_drew hb2
        replace hw3 := below_drew hw3
        have Hpv3 : Hid (0 < k → W.drew.cell? ⟨ig, io + (k - 1), none⟩ = some (.int .i64 y)) := Hpv1.out
        have hgil2 : ig < W.drew.heap.size := hgil1
        have q2 : W.drew.cell? ⟨ig, io + k, none⟩ = some (.int .i64 id) := q1
        clear Hpv1 hgil1 q1 v3 hlv1 hXl Hbd1
        generalize hWq : W.drew = Wb at *
        clear hWq W
        have v3 : Wb.cell? ⟨w.heap.size + 1, 3, none⟩ = some (.slice (some ⟨ig, io, none⟩) ids.length d1) := hbv2.cell 3
        have hlv1 := hbv2.lt
        cases bad1 with
        | true =>
         have Hno := Lib.hid (Hret.out 1 (by rw [Hst2.out]; simp) (by decide))
         go_wp2_with fail
         go_ret
         exact ⟨ret_i (by rw [Hno.out]), hw3⟩
        | false =>
         go_upto_region 14 with fail
         have f4 : Wb.cell? ⟨X, 4, none⟩ = some (.int .i64 xrule) := hx2.cell 4
         have hlX := hx2.lt
         go_cut [96] from 76 to 96 (fun s wx => s = .bool bad2 ∧ wx = Wb.drew)
         case first =>
          by_cases hk0 : 0 < k
          ·have pv := Hpv3.out hk0
           have e1 : IntKind.i64.wrap ((k : Int) - 1) = (k : Int) - 1 := IntWalk.i64_in _ (by go_light; omega)
           have e2 : ((k : Int) - 1).toNat = k - 1 := by go_light; omega
           have e3 : decide (0 < k) = true := by go_light; simp; omega
           have e4 : (1 : Int) ≤ k := by go_light; omega
           have e5 : (k : Int) - 1 < ids.length := by go_light; omega
           by_cases hy : y = id
           ·have ey : (id == y) = true := by simp [hy]
            have hfin : Hid (bad2 = (xrule != 3)) := by
             show _ = _
             rw [Hbd2.out]
             by_cases h3 : xrule = 3 <;> simp [hk0, hy, h3]
            have hS : (World.cell? (Wb.drew) ⟨w.heap.size + 1, 3, none⟩ = some (.slice (some ⟨ig, io, none⟩) ids.length d1) ∧ World.cell? (Wb.drew) ⟨ig, io + k, none⟩ = some (.int .i64 id) ∧ World.cell? (Wb.drew) ⟨ig, io + (k - 1), none⟩ = some (.int .i64 y)) ∧ World.cell? (Wb.drew) ⟨X, 4, none⟩ = some (.int .i64 xrule) := ⟨⟨v3, q2, pv⟩, f4⟩
            clear pv v3 q2 hy f4
            refine late_start (lt := 21) (hm := by kernel_rfl) (h := ?_) (S := fun W' => (World.cell? (W') ⟨w.heap.size + 1, 3, none⟩ = some (.slice (some ⟨ig, io, none⟩) ids.length d1) ∧ World.cell? (W') ⟨ig, io + k, none⟩ = some (.int .i64 id) ∧ World.cell? (W') ⟨ig, io + (k - 1), none⟩ = some (.int .i64 y)) ∧ World.cell? (W') ⟨X, 4, none⟩ = some (.int .i64 xrule))
            refine tkL 0 hS ?_
            try simp only [pu]
            refine tkL 1 hS ?_
            try simp only [pu]
            refine tkL 2 hS ?_
            try simp only [pu]
            refine tkL 3 hS ?_
            try simp only [pu]
            refine tkL 4 hS ?_
            try simp only [pu]
            refine tkL 5 hS ?_
            try simp only [pu]
            refine tkL 6 hS ?_
            try simp only [pu]
            refine tkL 7 hS ?_
            try simp only [pu]
            refine tkL 8 hS ?_
            try simp only [pu]
            refine tkL 9 hS ?_
            try simp only [pu]
            refine tkL 10 hS ?_
            try simp only [pu]
            refine tkL 11 hS ?_
            try simp only [pu]
            refine tkL 12 hS ?_
            try simp only [pu]
            refine tkL 13 hS ?_
            try simp only [pu]
            refine tkL 14 hS ?_
            try simp only [pu]
            refine tkL 15 hS ?_
            try simp only [pu]
            refine tkL 16 hS ?_
            try simp only [pu]
            refine tkL 17 hS ?_
            try simp only [pu]
            refine tkL 18 hS ?_
            try simp only [pu]
            refine tkL 19 hS ?_
            try simp only [pu]
            refine tkL 20 hS ?_
            try simp only [pu]
            refine late_done (by kernel_rfl) ?_ _
            go_wp2_with fail
            go_meet
            case rel => exact ⟨by rw [hfin.out], rfl⟩
           ·have ey : (id == y) = false := by simp only [beq_eq_false_iff_ne, ne_eq]; exact fun h => hy h.symm
            have hfin : Hid (bad2 = false) := by show _ = _; rw [Hbd2.out]; simp [hy]
            have hS : World.cell? (Wb.drew) ⟨w.heap.size + 1, 3, none⟩ = some (.slice (some ⟨ig, io, none⟩) ids.length d1) ∧ World.cell? (Wb.drew) ⟨ig, io + k, none⟩ = some (.int .i64 id) ∧ World.cell? (Wb.drew) ⟨ig, io + (k - 1), none⟩ = some (.int .i64 y) := ⟨v3, q2, pv⟩
            clear pv v3 q2 hy f4
            refine late_start (lt := 21) (hm := by kernel_rfl) (h := ?_) (S := fun W' => World.cell? (W') ⟨w.heap.size + 1, 3, none⟩ = some (.slice (some ⟨ig, io, none⟩) ids.length d1) ∧ World.cell? (W') ⟨ig, io + k, none⟩ = some (.int .i64 id) ∧ World.cell? (W') ⟨ig, io + (k - 1), none⟩ = some (.int .i64 y))
            refine tkL 0 hS ?_
            try simp only [pu]
            refine tkL 1 hS ?_
            try simp only [pu]
            refine tkL 2 hS ?_
            try simp only [pu]
            refine tkL 3 hS ?_
            try simp only [pu]
            refine tkL 4 hS ?_
            try simp only [pu]
            refine tkL 5 hS ?_
            try simp only [pu]
            refine tkL 6 hS ?_
            try simp only [pu]
            refine tkL 7 hS ?_
            try simp only [pu]
            refine tkL 8 hS ?_
            try simp only [pu]
            refine tkL 9 hS ?_
            try simp only [pu]
            refine tkL 10 hS ?_
            try simp only [pu]
            refine tkL 11 hS ?_
            try simp only [pu]
            refine tkL 12 hS ?_
            try simp only [pu]
            refine tkL 13 hS ?_
            try simp only [pu]
            refine tkL 14 hS ?_
            try simp only [pu]
            refine tkL 15 hS ?_
            try simp only [pu]
            refine tkL 16 hS ?_
            try simp only [pu]
            refine skL 17 hS ?_
            try simp only [pu]
            refine skL 18 hS ?_
            try simp only [pu]
            refine skL 19 hS ?_
            try simp only [pu]
            refine tkL 20 hS ?_
            try simp only [pu]
            refine late_done (by kernel_rfl) ?_ _
            go_wp2_with fail
            go_meet
            case rel => exact ⟨by rw [hfin.out], rfl⟩
          ·have e3 : decide (0 < k) = false := by go_light; simp; omega
           have hfin : Hid (bad2 = false) := by show _ = _; rw [Hbd2.out]; simp [hk0]
           have hS : True := trivial
           refine late_start (lt := 21) (hm := by kernel_rfl) (h := ?_) (S := fun _ => True)
           refine tkL 0 hS ?_
           try simp only [pu]
           refine tkL 1 hS ?_
           try simp only [pu]
           refine tkL 2 hS ?_
           try simp only [pu]
           refine skL 3 hS ?_
           try simp only [pu]
           refine skL 4 hS ?_
           try simp only [pu]
           refine skL 5 hS ?_
           try simp only [pu]
           refine skL 6 hS ?_
           try simp only [pu]
           refine skL 7 hS ?_
           try simp only [pu]
           refine skL 8 hS ?_
           try simp only [pu]
           refine skL 9 hS ?_
           try simp only [pu]
           refine skL 10 hS ?_
           try simp only [pu]
           refine skL 11 hS ?_
           try simp only [pu]
           refine skL 12 hS ?_
           try simp only [pu]
           refine skL 13 hS ?_
           try simp only [pu]
           refine skL 14 hS ?_
           try simp only [pu]
           refine tkL 15 hS ?_
           try simp only [pu]
           refine tkL 16 hS ?_
           try simp only [pu]
           refine skL 17 hS ?_
           try simp only [pu]
           refine skL 18 hS ?_
           try simp only [pu]
           refine skL 19 hS ?_
           try simp only [pu]
           refine tkL 20 hS ?_
           try simp only [pu]
           refine late_done (by kernel_rfl) ?_ _
           go_wp2_with fail
           go_meet
           case rel => exact ⟨by rw [hfin.out], rfl⟩
         case rest =>
          obtain ⟨rfl, rfl⟩ := hcut
          replace hbb2 := hbb2.drew
          replace hbt2 := hbt2.drew
          replace hbv2 := hbv2.drew
          replace hx2 := hx2.drew
          replace hb2 := below_drew hb2
          replace hw3 := below_drew hw3
          clear Hpv3 hgil2 q2 v3 hlv1 f4 hlX Hbd2
          generalize hWq : Wb.drew = Wc at *
          clear hWq Wb
          cases bad2 with
          | true =>
           have Hno := Lib.hid (Hret.out 4 (by rw [Hst2.out]; simp) (by decide))
           go_wp2_with fail
           go_ret
           exact ⟨ret_i (by rw [Hno.out]), hw3⟩
          | false =>
           have hst3 := Hst2.out
           simp only [Bool.false_eq_true, if_false, ne_eq, not_true_eq_false] at hst3
           have Hst := Lib.hid hst3
           clear Hst2 hst3
           go_wp2_with fail
           have HSK : Hid (∀ W', Box W' w.heap.size 24 [.slice A b.length cap] → Box W' X 55 [.int .i64 xid, .string xname, .string xtype, .int .i64 xkind, .int .i64 xrule] → Box W' (w.heap.size + 1) 37 [.int .i64 2, .int .i64 0, .string ⟨#[]⟩, .slice (some ⟨ig, io, none⟩) ids.length d1, .slice (some ⟨lg, lo, none⟩) l.length d2] → Below w.heap.size w W' → (W'.cell? ⟨w.heap.size, 0, none⟩ = some (.slice A b.length cap) ∧ (W'.cell? ⟨X, 0, none⟩ = some (.int .i64 xid) ∧ W'.cell? ⟨X, 1, none⟩ = some (.string xname) ∧ W'.cell? ⟨X, 2, none⟩ = some (.string xtype) ∧ W'.cell? ⟨X, 3, none⟩ = some (.int .i64 xkind) ∧ W'.cell? ⟨X, 4, none⟩ = some (.int .i64 xrule)) ∧ W'.cell? ⟨w.heap.size + 1, 4, none⟩ = some (.slice (some ⟨lg, lo, none⟩) l.length d2) ∧ (W'.cell? ⟨lg, lo + k * 5, none⟩ = some (.int .i64 vk) ∧ W'.cell? ⟨lg, lo + k * 5 + 1, none⟩ = some (.int .i64 vn) ∧ W'.cell? ⟨lg, lo + k * 5 + 2, none⟩ = some (.string vs) ∧ W'.cell? ⟨lg, lo + k * 5 + 3, none⟩ = some (.slice E1 vi.length f1) ∧ W'.cell? ⟨lg, lo + k * 5 + 4, none⟩ = some (.slice E2 vl.length f2)))) :=
            fun W' h1 h2 h3 h4 => ⟨h1.cell 0, h2.five, h3.cell 4, by
             have hc := HLs.out.keep (S := Old w) (Keep.of_below h4) hlgw
             exact ⟨hc.at_ 0 rfl, hc.at_ 1 rfl, hc.at_ 2 rfl, hc.at_ 3 rfl, hc.at_ 4 rfl⟩⟩
           have hS := HSK.out Wc.drew hbb2.drew hx2.drew hbv2.drew (below_drew hw3)
           refine late_start (lt := 7) (hm := by kernel_rfl) (h := ?_) (S := fun W' => W'.cell? ⟨w.heap.size, 0, none⟩ = some (.slice A b.length cap) ∧ (W'.cell? ⟨X, 0, none⟩ = some (.int .i64 xid) ∧ W'.cell? ⟨X, 1, none⟩ = some (.string xname) ∧ W'.cell? ⟨X, 2, none⟩ = some (.string xtype) ∧ W'.cell? ⟨X, 3, none⟩ = some (.int .i64 xkind) ∧ W'.cell? ⟨X, 4, none⟩ = some (.int .i64 xrule)) ∧ W'.cell? ⟨w.heap.size + 1, 4, none⟩ = some (.slice (some ⟨lg, lo, none⟩) l.length d2) ∧ (W'.cell? ⟨lg, lo + k * 5, none⟩ = some (.int .i64 vk) ∧ W'.cell? ⟨lg, lo + k * 5 + 1, none⟩ = some (.int .i64 vn) ∧ W'.cell? ⟨lg, lo + k * 5 + 2, none⟩ = some (.string vs) ∧ W'.cell? ⟨lg, lo + k * 5 + 3, none⟩ = some (.slice E1 vi.length f1) ∧ W'.cell? ⟨lg, lo + k * 5 + 4, none⟩ = some (.slice E2 vl.length f2)))
           refine tkL 0 hS ?_
           try simp only [pu]
           refine tkL 1 hS ?_
           try simp only [pu]
           refine tkL 2 hS ?_
           try simp only [pu]
           refine tkL 3 hS ?_
           try simp only [pu]
           refine tkL 4 hS ?_
           try simp only [pu]
           refine tkL 5 hS ?_
           try simp only [pu]
           refine tkL 6 hS ?_
           try simp only [pu]
           refine late_one (i := 7) rfl (by kernel_rfl) (fun K hK => ?_)
           go_simp
           refine (single_any S S' _ b ⟨xid, xname, xtype, xkind, xrule⟩ _ (.mk vk vn vs vi vl) _ ((RSl.fair RType.fair).below HB.out (below_drew hw3)) (RVal.fair.below HRx.out (below_drew hw3)) HOx.out HKx.out.1 HKx.out.2).mono ?_
           rintro e w4 ⟨rfl, hb4⟩
           refine hK.out _ _ (fun h => absurd h (by decide)) ?_
           clear hK K
           try simp only [pu]
           refine late_one (i := 8) rfl (by kernel_rfl) (fun K hK => ?_)
           go_simp
           refine hK.out _ _ (fun h => absurd h (by decide)) ?_
           clear hK K
           try simp only [pu]
           refine late_done (by kernel_rfl) ?_ _
           have hw4 := below_via (below_drew hw3) hb4 (below_drew hw3).size
           have hc4 := below_via (below_drew hb2) hb4 (below_drew hb2).size
           have hbb3 := hbb2.drew.below hb4 hbb2.drew.lt
           have hbt3 := hbt2.drew.below hb4 hbt2.drew.lt
           have hbv3 := hbv2.drew.below hb4 hbv2.drew.lt
           have hx3 := hx2.drew.below hb4 hx2.drew.lt
           clear hS hb4 hbb2 hbt2 hbv2 hx2 hw3 hb2
           obtain ⟨fi, hfi⟩ : ∃ fi, fi = fitsF b ⟨xid, xname, xtype, xkind, xrule⟩ (.mk vk vn vs vi vl) := ⟨_, rfl⟩
           rw [← hfi] at Hst ⊢
           clear hfi
           by_cases hfi0 : fi = 0
           ·subst hfi0
            obtain ⟨_, _, _, c3, _⟩ := hx3.five
            have hlx := hx3.lt
            by_cases hk5 : xkind = 5
            ·have b5 : (xkind == 5) = true := by simpa using hk5
             go_wp2_with fail
             clear c3 hlx
             have hS := HSK.out w4.drew hbb3.drew hx3.drew hbv3.drew (below_drew hw4)
             refine late_start (lt := 8) (hm := by kernel_rfl) (h := ?_) (S := fun W' => W'.cell? ⟨w.heap.size, 0, none⟩ = some (.slice A b.length cap) ∧ (W'.cell? ⟨X, 0, none⟩ = some (.int .i64 xid) ∧ W'.cell? ⟨X, 1, none⟩ = some (.string xname) ∧ W'.cell? ⟨X, 2, none⟩ = some (.string xtype) ∧ W'.cell? ⟨X, 3, none⟩ = some (.int .i64 xkind) ∧ W'.cell? ⟨X, 4, none⟩ = some (.int .i64 xrule)) ∧ W'.cell? ⟨w.heap.size + 1, 4, none⟩ = some (.slice (some ⟨lg, lo, none⟩) l.length d2) ∧ (W'.cell? ⟨lg, lo + k * 5, none⟩ = some (.int .i64 vk) ∧ W'.cell? ⟨lg, lo + k * 5 + 1, none⟩ = some (.int .i64 vn) ∧ W'.cell? ⟨lg, lo + k * 5 + 2, none⟩ = some (.string vs) ∧ W'.cell? ⟨lg, lo + k * 5 + 3, none⟩ = some (.slice E1 vi.length f1) ∧ W'.cell? ⟨lg, lo + k * 5 + 4, none⟩ = some (.slice E2 vl.length f2)))
             refine tkL 0 hS ?_
             try simp only [pu]
             refine tkL 1 hS ?_
             try simp only [pu]
             refine tkL 2 hS ?_
             try simp only [pu]
             refine tkL 3 hS ?_
             try simp only [pu]
             refine tkL 4 hS ?_
             try simp only [pu]
             refine tkL 5 hS ?_
             try simp only [pu]
             refine tkL 6 hS ?_
             try simp only [pu]
             refine tkL 7 hS ?_
             try simp only [pu]
             refine late_one (i := 8) rfl (by kernel_rfl) (fun K hK => ?_)
             go_simp
             refine (IH.out xtype _ (.mk vk vn vs vi vl) _ HDx.out ((RSl.fair RType.fair).below HB.out (below_drew hw4)) (RVal.fair.below HRx.out (below_drew hw4)) HOk.out).mono ?_
             rintro e w6 ⟨rfl, hb6⟩
             refine hK.out _ _ (fun h => absurd h (by decide)) ?_
             clear hK K
             try simp only [pu]
             refine late_one (i := 9) rfl (by kernel_rfl) (fun K hK => ?_)
             go_simp
             refine hK.out _ _ (fun h => absurd h (by decide)) ?_
             clear hK K
             try simp only [pu]
             refine late_done (by kernel_rfl) ?_ _
             have hw6 := below_via (below_drew hw4) hb6 (below_drew hw4).size
             have hc6 := below_via (below_drew hc4) hb6 (below_drew hc4).size
             have hbb6 := hbb3.drew.below hb6 hbb3.drew.lt
             have hbt6 := hbt3.drew.below hb6 hbt3.drew.lt
             have hbv6 := hbv3.drew.below hb6 hbv3.drew.lt
             clear hS hb6 hbb3 hbt3 hbv3 hx3 hw4 hc4
             obtain ⟨tc, htc⟩ : ∃ tc, tc = typedF b (typeOf b xtype) (.mk vk vn vs vi vl) := ⟨_, rfl⟩
             rw [← htc] at Hst ⊢
             clear htc
             by_cases htc0 : tc = 0
             ·subst htc0
              have he2 : Hid (typedGo b ty (lastI ids (k + 1)) (ids.drop (k + 1)) (l.drop (k + 1)) = typedGo b ty none ids l) := by
               show _ = _
               rw [Hst.out]; simp
              clear hk5
              go_wp2_with fail
              go_roundw
              case rel => first | exact ⟨k + 1, by go_num, by go_light; omega, he2, hbb6, hbt6, hbv6, hc6⟩ | ((repeat apply Exists.intro); exact ⟨⟨k + 1, by go_num, by go_light; omega, he2, hbb6, hbt6, hbv6, hc6⟩, rfl⟩)
              case measure => go_light; simp [intOf]; omega
             ·have Hno := Lib.hid (Hret.out tc (by rw [Hst.out]; simp [hk5, htc0]) htc0)
              have hcb : (tc != 0) = true := by simpa using htc0
              clear htc0 hk5
              go_wp2_with fail
              go_ret
              exact ⟨ret_i (by rw [Hno.out]), hw6⟩
            ·have b5 : (xkind == 5) = false := by simpa using hk5
             have he2 : Hid (typedGo b ty (lastI ids (k + 1)) (ids.drop (k + 1)) (l.drop (k + 1)) = typedGo b ty none ids l) := by
              show _ = _
              rw [Hst.out]; simp [hk5]
             clear hk5
             go_wp2_with fail
             go_roundw
             case rel => first | exact ⟨k + 1, by go_num, by go_light; omega, he2, hbb3, hbt3, hbv3, hc4⟩ | ((repeat apply Exists.intro); exact ⟨⟨k + 1, by go_num, by go_light; omega, he2, hbb3, hbt3, hbv3, hc4⟩, rfl⟩)
             case measure => go_light; simp [intOf]; omega
           ·have Hno := Lib.hid (Hret.out fi (by rw [Hst.out]; simp [hfi0]) hfi0)
            have hcb : (fi != 0) = true := by simpa using hfi0
            clear hfi0
            go_wp2_with fail
            go_ret
            exact ⟨ret_i (by rw [Hno.out]), hw4⟩
    ·--[END
     have hgo : typedGo b ty none ids l = 0 := by
      have hdl : l.drop k = [] := List.drop_eq_nil_of_le (by go_light; have := Hll.out; omega)
      rw [← he.out, hdl, typedGo]
     have Hfin : Hid (typedF b ty (.mk 2 0 ⟨#[]⟩ ids l) = if fullF ty ids = true then 0 else 3) := by
      show _ = _
      rw [Hon.out, if_neg (by rw [hgo]; decide)]
     obtain ⟨bt0, bt1, bt2, bt3, bt4⟩ := hbt.five
     have hltt := hbt.lt
     clear hgo he
     obtain ⟨wo, rfl⟩ : ∃ wo : World, wo = wr := ⟨_, rfl⟩
     go_wp2_with fail
     clear bt0 bt1 bt2 bt3 bt4
     go_loopw [127] (fun i wr => ∃ q : Nat, i = .int .i64 q ∧ q ≤ ty.fields.length ∧ Hid ((ty.fields.drop q).all (fun f => decide (f.rule ≠ 1) || hasI ids f.id) = fullF ty ids) ∧
      Box wr (w.heap.size + 1) 37 [.int .i64 2, .int .i64 0, .string ⟨#[]⟩, .slice I1 ids.length d1, .slice I2 l.length d2] ∧ Below W1.heap.size W1 wr) (fun i _ => ty.fields.length - (intOf i).toNat)
     case atStart => exact ⟨0, rfl, by go_light; omega, rfl, hbv, hb1⟩
     case round =>
      clear hbb hbt hbv hb hb1 hlt hk hltt
      obtain ⟨q, rfl, hq, hfu, hbv, hb1⟩ := hrel
      have hb := below_via hw2 hb1 hw2.size
      by_cases hlt : q < ty.fields.length
      ·obtain ⟨g, o, rfl, hS, hg⟩ := HF.out.base (by go_light; omega)
       have hc := (HF.out.flat (enc := fieldCells) hlt).keep (Keep.of_below hb1) hS
       have hdr : ty.fields.drop q = ty.fields[q] :: ty.fields.drop (q + 1) := List.drop_eq_getElem_cons hlt
       rw [hdr, List.all_cons] at hfu
       obtain ⟨f, hxe⟩ : ∃ x, x = ty.fields[q] := ⟨_, rfl⟩
       rw [← hxe] at hc hfu
       obtain ⟨fid, fname, ftype, fkind, frule⟩ := f
       have q0 : wr.cell? ⟨g, o + q * 5, none⟩ = some (.int .i64 fid) := hc.at_ 0 rfl
       have q1 : wr.cell? ⟨g, o + q * 5 + 1, none⟩ = some (.string fname) := hc.at_ 1 rfl
       have q2 : wr.cell? ⟨g, o + q * 5 + 2, none⟩ = some (.string ftype) := hc.at_ 2 rfl
       have q3 : wr.cell? ⟨g, o + q * 5 + 3, none⟩ = some (.int .i64 fkind) := hc.at_ 3 rfl
       have q4 : wr.cell? ⟨g, o + q * 5 + 4, none⟩ = some (.int .i64 frule) := hc.at_ 4 rfl
       obtain ⟨u0, u1, u2, u3, u4⟩ := hbv.five
       have hlv := hbv.lt
       have hgl : g < wr.heap.size := Nat.lt_of_lt_of_le hg hb1.size
       dsimp only at hfu
       clear hc hxe hdr
       have hwa := hb1.alloc hb1.size (.cells #[.int .i64 fid, .string fname, .string ftype, .int .i64 fkind, .int .i64 frule] 55)
       have hww := hb.alloc hb.size (.cells #[.int .i64 fid, .string fname, .string ftype, .int .i64 fkind, .int .i64 frule] 55)
       have hbva := hbv.alloc (.cells #[.int .i64 fid, .string fname, .string ftype, .int .i64 fkind, .int .i64 frule] 55)
       by_cases hr1 : frule = 1
       ·have hrb : (frule == 1) = true := by simpa using hr1
        obtain ⟨hh, hhe⟩ : ∃ h, h = hasI ids fid := ⟨_, rfl⟩
        have hcall := fun W (h : RVal S' W [.int .i64 2, .int .i64 0, .string ⟨#[]⟩, .slice I1 ids.length d1, .slice I2 l.length d2] (.mk 2 0 ⟨#[]⟩ ids l)) => those_any S' _ (.mk 2 0 ⟨#[]⟩ ids l) fid W h (by have := Hll.out; show ids.length ≤ l.length; omega)
        dsimp only [ValueD.ids] at hcall
        rw [← hhe] at hcall hfu
        have hfu2 : Hid ((hh && (ty.fields.drop (q + 1)).all (fun f => decide (f.rule ≠ 1) || hasI ids f.id)) = fullF ty ids) := by
         show _ = _
         rw [← hfu.out]; simp [hr1]
        have Hcall := Lib.hid hcall
        have HVa := Lib.hid (RVal.fair.below HV.out hww)
        clear hfu hr1 hhe hcall
        cases hh with
        | true =>
         have hfu3 : Hid ((ty.fields.drop (q + 1)).all (fun f => decide (f.rule ≠ 1) || hasI ids f.id) = fullF ty ids) := by show _ = _; rw [← hfu2.out]; simp
         go_wp2_with fail
         refine (Hcall.out _ HVa.out).mono ?_
         rintro e w' ⟨At, nt, ct, rfl, hnt, hnz, hbt'⟩
         have hnn : ((nt : Int) == 0) = false := by
          have : nt ≠ 0 := fun h => by have := hnz.1 h; cases this
          simp only [beq_eq_false_iff_ne, ne_eq]; go_light; omega
         have hwa2 := below_via hwa hbt' hwa.size
         have hbv2 := hbva.below hbt' hbva.lt
         clear hnz
         go_wp2_with fail
         go_roundw
         case rel => exact ⟨q + 1, by go_num, by go_light; omega, hfu3, hbv2, hwa2⟩
         case measure => go_light; simp [intOf]; omega
        | false =>
         have Hno := Lib.hid (show typedF b ty (.mk 2 0 ⟨#[]⟩ ids l) = 3 from by rw [Hfin.out, if_neg (by rw [← hfu2.out]; simp)])
         go_wp2_with fail
         refine (Hcall.out _ HVa.out).mono ?_
         rintro e w' ⟨At, nt, ct, rfl, hnt, hnz, hbt'⟩
         obtain rfl : nt = 0 := hnz.2 rfl
         have hwa2 := below_via hww hbt' hww.size
         go_wp2_with fail
         go_ret
         exact ⟨ret_i (by rw [Hno.out]), hwa2⟩
       ·have hrb : (frule == 1) = false := by simpa using hr1
        have hfu3 : Hid ((ty.fields.drop (q + 1)).all (fun f => decide (f.rule ≠ 1) || hasI ids f.id) = fullF ty ids) := by show _ = _; rw [← hfu.out]; simp [hr1]
        clear hfu hr1
        go_wp2_with fail
        go_roundw
        case rel => exact ⟨q + 1, by go_num, by go_light; omega, hfu3, hbva, hwa⟩
        case measure => go_light; simp [intOf]; omega
      ·have hdr : ty.fields.drop q = [] := List.drop_eq_nil_of_le (by go_light; omega)
       rw [hdr] at hfu
       have Hyes := Lib.hid (show typedF b ty (.mk 2 0 ⟨#[]⟩ ids l) = 0 from by rw [Hfin.out, if_pos (by rw [← hfu.out]; rfl)])
       clear hdr hfu
       go_wp2_with fail
       go_ret
       exact ⟨ret_i (by rw [Hyes.out]), hb⟩
 ·have Hno := Lib.hid (typed_no1 (b := b) (t := ty) (n := n) (s := s) (ids := ids) (l := l) hk2)
  have hkb : (kind != 2) = true := by simpa using hk2
  clear hk2
  go_wp2_with fail
  go_ret
  exact ⟨ret_i (by rw [Hno.out]), hw2⟩
theorem inside_any (S S' : Nat → Prop) (vb : Value) (b : BookD) (hkd : KindsOk b) : ∀ (d : Nat), InsideAt S S' vb b d
 | 0 => fun _ _ v _ hd _ _ _ => by
  obtain ⟨kind, n, s, ids, l⟩ := v
  rw [depthV] at hd; omega
 | d + 1 => inside_succ S S' vb b hkd d (inside_any S S' vb b hkd d)
end Go.Proofs.YtfidfakcbjoilaaGreatDoor
namespace Go.Proofs.YtfidfakcbjoilaaGreatDoor
open Go.RowKit
theorem isTyped_any (S S' : Nat → Prop) (vb : Value) (b : BookD) (name : ByteArray) (cs : List Value) (v : ValueD) (w : World) (hb0 : RSl 5 96 RType S w [vb] b) (hr : RVal S' w cs v) (hM : MaxL w) (hB : BookOk b) (hsm : BookSmall b) (hok : okV v) (hd : depthV v ≤ 4611686018427387904) (hc : countV v ≤ 4611686018427387904) :
  Calls Tryz.prog 33 #[.agg #[vb], .string name, .agg cs.toArray] w (Ret w (.int .i64 (TypedF b name v))) := by
 obtain ⟨A, cap, rfl, hlc, hlb⟩ := hb0.form
 obtain ⟨r, hrr⟩ : ∃ r, r = TypedF b name v := ⟨_, rfl⟩
 have Hr := Lib.hid (show r = if goodF b ≠ 0 then 1 else if noneB b name = true then 3 else if smallF v = false then 7 else typedF b (typeOf b name) v from hrr)
 rw [← hrr]
 have Hms := Lib.hid (fun W (h0 : RSl 5 96 RType S W [.slice A b.length cap] b) (h1 : MaxL W) => messageOf_any S _ b name W h0 h1 hB hsm)
 have Hsm := Lib.hid (fun W (h : RVal S' W cs v) => isSmall_any S' cs v W h hd hc)
 have Hin := Lib.hid (fun (hg : goodF b = 0) W (h0 : RSl 5 96 RType S W [.slice A b.length cap] b) (h2 : RVal S' W cs v) => inside_any S S' (.slice A b.length cap) b (kinds_of_good hg) (depthV v) name cs v W (Nat.le_refl _) h0 h2 hok)
 obtain ⟨gd, hgd⟩ : ∃ gd, gd = goodF b := ⟨_, rfl⟩
 obtain ⟨nb, hnb⟩ : ∃ nb, nb = noneB b name := ⟨_, rfl⟩
 obtain ⟨sm, hsmm⟩ : ∃ sm, sm = smallF v := ⟨_, rfl⟩
 obtain ⟨tf, htf⟩ : ∃ tf, tf = typedF b (typeOf b name) v := ⟨_, rfl⟩
 rw [← hgd, ← hnb] at Hms
 rw [← hgd, ← hnb, ← hsmm, ← htf] at Hr
 rw [← hsmm] at Hsm
 rw [← hgd, ← htf] at Hin
 obtain ⟨mc, hmc⟩ : ∃ mc : Int, mc = if gd ≠ 0 then 1 else if nb = true then 3 else 0 := ⟨_, rfl⟩
 rw [← hmc] at Hms
 have Hmc := Lib.hid hmc
 have HB := Lib.hid hb0
 have HM := Lib.hid hM
 have HV := Lib.hid hr
 obtain ⟨kind, n, s, ids, l⟩ := v
 obtain ⟨I1, d1, I2, d2, rfl, _, _⟩ := hr.parts
 obtain ⟨x1, x2, x3⟩ := boxes2 w [.slice A b.length cap] [.int .i64 kind, .int .i64 n, .string s, .slice I1 ids.length d1, .slice I2 l.length d2] 24 37
 clear hb0 hr hM hB hsm hok hd hc hrr hsmm htf hgd hnb hmc
 go_enter Tryz.func33, Tryz.ntmps33
 go_wp2_with fail
 refine (Hms.out _ ((RSl.fair RType.fair).below HB.out x3) (HM.out.below x3)).mono ?_
 rintro e w1 ⟨mt, M1, M2, M3, m1, m2, m3, rfl, hb1⟩
 have hw1 := below_via x3 hb1 x3.size
 have hw2 := hw1.alloc hw1.size (.cells #[.string mt.name, .bool mt.enum, .slice M1 mt.fields.length m1, .slice M2 mt.gone.length m2, .slice M3 mt.items.length m3] 46)
 have y1 := (x1.below hb1 x1.lt).alloc (.cells #[.string mt.name, .bool mt.enum, .slice M1 mt.fields.length m1, .slice M2 mt.gone.length m2, .slice M3 mt.items.length m3] 46)
 have y2 := (x2.below hb1 x2.lt).alloc (.cells #[.string mt.name, .bool mt.enum, .slice M1 mt.fields.length m1, .slice M2 mt.gone.length m2, .slice M3 mt.items.length m3] 46)
 obtain ⟨u0, u1, u2, u3, u4⟩ := (x2.below hb1 x2.lt).five
 have hl2 := (x2.below hb1 x2.lt).lt
 clear hb1 x1 x2 x3 hw1
 by_cases hm0 : mc = 0
 ·subst hm0
  have hg0 : gd = 0 := by
   by_cases hg : gd = 0
   ·exact hg
   ·have := Hmc.out; rw [if_pos hg] at this; cases this
  have hn0 : nb = false := by
   cases hnb : nb with
   | false => rfl
   | true => have := Hmc.out; rw [if_neg (by simp [hg0]), if_pos hnb] at this; cases this
  rw [hg0, hn0, if_neg (by simp), if_neg (by simp)] at Hr
  have Hin2 := Lib.hid (Hin.out hg0)
  clear hg0 hn0 Hin Hmc
  go_wp2_with fail
  refine (Hsm.out _ (RVal.fair.below HV.out hw2)).mono ?_
  rintro e w3 ⟨rfl, hb3⟩
  have hw3 := below_via hw2 hb3 hw2.size
  have z1 := y1.below hb3 y1.lt
  have z2 := y2.below hb3 y2.lt
  obtain ⟨u0', u1', u2', u3', u4'⟩ := z2.five
  have hl2' := z2.lt
  have s0 : w3.cell? ⟨w.heap.size, 0, none⟩ = some (.slice A b.length cap) := z1.cell 0
  have hl1 := z1.lt
  clear u0 u1 u2 u3 u4 hl2 y1 y2 hw2 hb3
  cases sm with
  | false =>
   simp only [if_true] at Hr
   go_wp2_with fail
   go_ret
   exact ⟨ret_i (by rw [Hr.out]), hw3⟩
  | true =>
   simp only [Bool.true_eq_false, if_false] at Hr
   go_wp2_with fail
   refine (Hin2.out _ ((RSl.fair RType.fair).below HB.out hw3) (RVal.fair.below HV.out hw3)).mono ?_
   rintro e w6 ⟨rfl, hb6⟩
   go_wp2_with fail
   go_ret
   exact ⟨ret_i (by rw [Hr.out]), below_via hw3 hb6 hw3.size⟩
 ·have hmb : (mc != 0) = true := by simpa using hm0
  have Hno : Hid (r = mc) := by
   show r = mc
   rw [Hr.out, Hmc.out]
   by_cases hg : gd = 0
   ·cases hnb : nb with
    | false => exact absurd (by rw [Hmc.out, if_neg (by simp [hg]), if_neg (by simp [hnb])]) hm0
    | true => simp [hg]
   ·rw [if_pos hg, if_pos hg]
  clear hm0
  go_wp2_with fail
  go_ret
  exact ⟨ret_i (by rw [Hno.out]), hw2⟩
end Go.Proofs.YtfidfakcbjoilaaGreatDoor
