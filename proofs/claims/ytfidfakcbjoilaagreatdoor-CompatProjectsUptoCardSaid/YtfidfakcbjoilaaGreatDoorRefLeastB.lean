/- The walk of the document's own leastBy. -/
import Derived.Test.YtfidfakcbjoilaaGreatDoorRefCopyV
import Derived.Test.YtfidfakcbjoilaaGreatDoorRefMessage
import Derived.Test.YtfidfakcbjoilaaGreatDoorValueLeast
import Derived.Test.YtfidfakcbjoilaaGreatDoorValCode
import Derived.Test.YtfidfakcbjoilaaGreatDoorRefSize
set_option linter.all false
set_option maxRecDepth 100000
set_option maxHeartbeats 8000000
namespace Go.Proofs.YtfidfakcbjoilaaGreatDoor
open Go.RowKit
attribute [local go_sem ↓] Go.wp_at_zero Go.wp_at_succ
def DeepP (b : BookD) (k : Nat) (f : FieldD) : Prop := f.kind = 5 → ∃ k', k = k' + 1 ∧ ∀ g ∈ onesL (typeOf b f.type), EndsP b k' g
theorem deep_of_ends {b : BookD} {k : Nat} {f : FieldD} (h : EndsP b k f) : DeepP b k f := fun h5 => by
 have h1 := h h5
 cases k with
 | zero => simp [leastF] at h1
 | succ k' =>
  obtain ⟨t, ht, _, hen, _⟩ := leastF_ends h1
  exact ⟨k', rfl, by rw [typeOf, ht]; exact hen⟩
theorem leastBy_eq {b : BookD} {k : Nat} {f : FieldD} (hg : goodF b = 0) (h1 : 1 ≤ f.kind) (h5 : f.kind ≤ 5) (hk : kindP b f) (hd : DeepP b k f) :
  leastOfF b k f = .mk (kindOf f.kind) (if f.kind = 4 then ((typeOf b f.type).items.head?.map (·.n)).getD 0 else 0) ⟨#[]⟩ ((onesL (typeOf b f.type)).map (·.id)) ((onesL (typeOf b f.type)).map (leastOfF b (k - 1))) ∧
  (typeOf b f.type).fields.length ≤ 5 ∧ (f.kind = 4 → 0 < (typeOf b f.type).items.length) ∧
  ∀ g ∈ (typeOf b f.type).fields, g.rule = 1 → f.kind = 5 ∧ (1 ≤ g.kind ∧ g.kind ≤ 5 ∧ kindP b g ∧ DeepP b (k - 1) g) := by
 by_cases e5 : f.kind = 5
 ·obtain ⟨k', rfl, hen⟩ := hd e5
  have h6 := hk.2 (by omega)
  obtain ⟨t, ht⟩ := Option.isSome_iff_exists.1 h6.1
  have h7 := h6.2
  rw [ht] at h7
  have he : t.enum = false := by simpa [e5] using h7
  have hty : typeOf b f.type = t := by rw [typeOf, ht]; rfl
  have hm := good_msg hg (findT_some ht).1 he
  refine ⟨?_, by rw [hty]; exact hm.1, fun h => by omega, fun g hgm hr => ⟨e5, ?_⟩⟩
  ·rw [leastOfF_msg e5, if_neg (by omega), e5]; rfl
  ·rw [hty] at hgm hen
   have hf := msg_field hm hgm
   exact ⟨hf.2.2.2.1, hf.2.2.2.2.1, hf.2.2.2.2.2.2.2, deep_of_ends (hen g (onesL_mem.2 ⟨hgm, hr⟩))⟩
 ·have hfl : (typeOf b f.type).fields = [] ∧ (f.kind = 4 → 0 < (typeOf b f.type).items.length) := by
   by_cases e4 : f.kind = 4
   ·have h6 := hk.2 (by omega)
    obtain ⟨t, ht⟩ := Option.isSome_iff_exists.1 h6.1
    have h7 := h6.2
    rw [ht] at h7
    have he : t.enum = true := by simpa [e4] using h7
    have hty : typeOf b f.type = t := by rw [typeOf, ht]; rfl
    have hm := good_enum hg (findT_some ht).1 he
    rw [hty]
    exact ⟨List.eq_nil_of_length_eq_zero hm.2.2.2.1, fun _ => by have := hm.2.1; omega⟩
   ·have hs := hk.1 (by omega)
    have hn : findT b f.type = none := by
     cases hf : findT b f.type with
     | none => rfl
     | some t =>
      obtain ⟨ht, hte⟩ := findT_some hf
      obtain ⟨_, hT, _⟩ := good_parts hg
      obtain ⟨i, hi, rfl⟩ := List.getElem_of_mem ht
      have := (hT i hi).1
      unfold namedF at this
      simp only [Bool.and_eq_true, decide_eq_true_eq] at this
      rw [hte] at this
      omega
    refine ⟨by rw [typeOf, hn]; rfl, fun h => absurd h e4⟩
  obtain ⟨hfl, hi⟩ := hfl
  have ho : onesL (typeOf b f.type) = [] := by unfold onesL; rw [hfl]; rfl
  refine ⟨?_, by rw [hfl]; simp, hi, fun g hgm => by rw [hfl] at hgm; cases hgm⟩
  rw [ho, leastOfF.eq_def]
  by_cases e3 : f.kind = 3
  ·rw [if_pos e3, if_neg (by omega), e3]; rfl
  ·rw [if_neg e3]
   by_cases e4 : f.kind = 4
   ·rw [if_pos e4, if_pos e4, e4]; rfl
   ·rw [if_neg e4, if_neg e5, if_neg e4]
    unfold kindOf
    rw [if_neg e3, if_neg e5]; rfl
theorem leastBy_results {W : World} {a : Act} {g : Nat} {c0 c1 c2 c3 c4 : Value} (hb : Box W g 37 [c0, c1, c2, c3, c4]) (h4 : a.tmps.getD 4 undef = .pointer (some ⟨g, 0, none⟩)) :
  (results Tryz.f58 a.tmps).run Tryz.prog W = .ok (.agg #[c0, c1, c2, c3, c4]) W := by
 obtain ⟨e0, e1, e2, e3, e4⟩ := hb.five
 simp only [Array.getD_eq_getD_getElem?] at h4
 simp [results, Tryz.results58, go_sem, h4, e0, e1, e2, e3, e4]
def LeastByAt (vb : Value) (b : BookD) (k : Nat) : Prop := ∀ (S : Nat → Prop) (f : FieldD) (w : World), RSl 5 96 RType S w [vb] b → 1 ≤ f.kind → f.kind ≤ 5 → kindP b f → DeepP b k f →
 Calls Tryz.prog 58 #[.agg #[vb], .agg #[.int .i64 f.id, .string f.name, .string f.type, .int .i64 f.kind, .int .i64 f.rule]] w (ValPost w (leastOfF b k f))
theorem leastBy_succ (vb : Value) (b : BookD) (hg : goodF b = 0) (k : Nat) (IH0 : ∀ k', k = k' + 1 → LeastByAt vb b k') : LeastByAt vb b k := by
 intro S f w hb0 hk1 hk5 hkp hdp
 obtain ⟨A, cap, rfl, hlc, hlb⟩ := hb0.form
 obtain ⟨heq, hf5, hit, hfk⟩ := leastBy_eq hg hk1 hk5 hkp hdp
 have hih : ∀ g ∈ (typeOf b f.type).fields, g.rule = 1 → ∀ W, RSl 5 96 RType (Old w) W [.slice A b.length cap] b → Calls Tryz.prog 58 #[.agg #[.slice A b.length cap], .agg #[.int .i64 g.id, .string g.name, .string g.type, .int .i64 g.kind, .int .i64 g.rule]] W (ValPost W (leastOfF b (k - 1) g)) := fun g hgm hr W h => by
  obtain ⟨e5, a1, a2, a3, a4⟩ := hfk g hgm hr
  obtain ⟨k', hk', _⟩ := hdp e5
  have e : k - 1 = k' := by omega
  rw [e] at a4 ⊢
  exact IH0 k' hk' (Old w) g W h a1 a2 a3 a4
 obtain ⟨r, hr⟩ : ∃ r, r = leastOfF b k f := ⟨_, rfl⟩
 rw [← hr]
 obtain ⟨ty, hty⟩ : ∃ ty, ty = typeOf b f.type := ⟨_, rfl⟩
 obtain ⟨nn, hnn⟩ : ∃ nn : Int, nn = if f.kind = 4 then ((typeOf b f.type).items.head?.map (·.n)).getD 0 else 0 := ⟨_, rfl⟩
 rw [← hnn] at heq
 rw [← hty] at heq hf5 hit hih hnn
 have HB := Lib.hid ((RSl.fair RType.fair).old hb0)
 have HR := Lib.hid (hr.trans heq)
 have HIT := Lib.hid hit
 have HIH := Lib.hid hih
 have HN := Lib.hid hnn
 obtain ⟨fid, fname, ftype, fkind, frule⟩ := f
 dsimp only at hty HR HIT HN hk1 hk5 ⊢
 have HT := Lib.hid hty
 obtain ⟨x1, x2, x3, x4⟩ := boxes3 w [.slice A b.length cap] [.int .i64 fid, .string fname, .string ftype, .int .i64 fkind, .int .i64 frule] [.int .i64 0, .int .i64 0, .string ⟨#[]⟩, .slice none 0 0, .slice none 0 0] 24 55 37
 clear hb0 hkp hdp heq hit hfk hih hr hnn hty IH0 hg
 have f2 := x2.cell 2
 have hl2 := x2.lt
 simp only [List.getElem?_cons_zero, List.getElem?_cons_succ] at f2
 go_enter Tryz.func58, Tryz.ntmps58
 go_wp2_with fail
 refine (typeOf_any (Old w) _ b ftype _ ((RSl.fair RType.fair).below HB.out x4)).mono ?_
 rintro e w1 ⟨cs3, rfl, hr3, hb1⟩
 obtain ⟨B1, l1, B2, l2, B3, l3, rfl, hrf, -, hri⟩ := hr3.parts
 have hty' : (findT b ftype).getD TypeD.zero = ty := HT.out.symm
 rw [hty'] at hr3 hrf hri ⊢
 obtain ⟨_, _, _, hfc, hfb⟩ := hrf.form
 obtain ⟨_, _, _, hic, hib⟩ := hri.form
 obtain ⟨okt, hokt⟩ : ∃ ok, ok = (findT b ftype).isSome := ⟨_, rfl⟩
 rw [← hokt]
 have hw1 := below_via x4 hb1 x4.size
 have y1 := x1.below hb1 x1.lt
 have y2 := x2.below hb1 x2.lt
 have y3 := x3.below hb1 x3.lt
 have HF := Lib.hid ((RSl.fair RField.fair).keep hrf (Keep.of_below (hb1.alloc hb1.size (.cells #[.string ty.name, .bool ty.enum, .slice B1 ty.fields.length l1, .slice B2 ty.gone.length l2, .slice B3 ty.items.length l3] 46))))
 have HI := Lib.hid ((RSl.fair RItem.fair).keep hri (Keep.of_below (hb1.alloc hb1.size (.cells #[.string ty.name, .bool ty.enum, .slice B1 ty.fields.length l1, .slice B2 ty.gone.length l2, .slice B3 ty.items.length l3] 46))))
 have hw2 := hw1.alloc hw1.size (.cells #[.string ty.name, .bool ty.enum, .slice B1 ty.fields.length l1, .slice B2 ty.gone.length l2, .slice B3 ty.items.length l3] 46)
 have z1 := y1.alloc (.cells #[.string ty.name, .bool ty.enum, .slice B1 ty.fields.length l1, .slice B2 ty.gone.length l2, .slice B3 ty.items.length l3] 46)
 have z2 := y2.alloc (.cells #[.string ty.name, .bool ty.enum, .slice B1 ty.fields.length l1, .slice B2 ty.gone.length l2, .slice B3 ty.items.length l3] 46)
 have z3 := y3.alloc (.cells #[.string ty.name, .bool ty.enum, .slice B1 ty.fields.length l1, .slice B2 ty.gone.length l2, .slice B3 ty.items.length l3] 46)
 have zt : Box (w1.alloc (.cells #[.string ty.name, .bool ty.enum, .slice B1 ty.fields.length l1, .slice B2 ty.gone.length l2, .slice B3 ty.items.length l3] 46)) w1.heap.size 46 [.string ty.name, .bool ty.enum, .slice B1 ty.fields.length l1, .slice B2 ty.gone.length l2, .slice B3 ty.items.length l3] := Box.new w1 _ _
 have f3 := y2.cell 3
 have hl3 := y2.lt
 simp only [List.getElem?_cons_zero, List.getElem?_cons_succ] at f3
 clear hr3 hrf hri hb1 hokt x1 x2 x3 x4 f2 hl2 y1 y2 y3 hw1 hty'
 go_wp2_with fail
 obtain ⟨W1, hW1⟩ : ∃ W, W = w1.alloc (.cells #[.string ty.name, .bool ty.enum, .slice B1 ty.fields.length l1, .slice B2 ty.gone.length l2, .slice B3 ty.items.length l3] 46) := ⟨_, rfl⟩
 obtain ⟨XT, hXT⟩ : ∃ X, X = w1.heap.size := ⟨_, rfl⟩
 rw [← hW1] at hw2 z1 z2 z3 zt HF HI ⊢
 rw [← hXT] at zt ⊢
 clear hW1 hXT hl3 f3
 refine (wireKind_any fkind _ (by omega) hk5).mono ?_
 rintro e w3 ⟨rfl, hb3⟩
 obtain ⟨kk, hkk⟩ : ∃ kk, kk = kindOf fkind := ⟨_, rfl⟩
 rw [← hkk] at HR ⊢
 replace HF := Lib.hid ((RSl.fair RField.fair).keep HF.out (Keep.of_below (hb3.alloc hb3.size (.cells #[.int .i64 kk, .int .i64 0, .string ⟨#[]⟩, .slice none 0 0, .slice none 0 0] 37))))
 replace HI := Lib.hid ((RSl.fair RItem.fair).keep HI.out (Keep.of_below (hb3.alloc hb3.size (.cells #[.int .i64 kk, .int .i64 0, .string ⟨#[]⟩, .slice none 0 0, .slice none 0 0] 37))))
 have hw3 := (below_via hw2 hb3 hw2.size).alloc (below_via hw2 hb3 hw2.size).size (.cells #[.int .i64 kk, .int .i64 0, .string ⟨#[]⟩, .slice none 0 0, .slice none 0 0] 37)
 have v1 := (z1.below hb3 z1.lt).alloc (.cells #[.int .i64 kk, .int .i64 0, .string ⟨#[]⟩, .slice none 0 0, .slice none 0 0] 37)
 have v2 := (z2.below hb3 z2.lt).alloc (.cells #[.int .i64 kk, .int .i64 0, .string ⟨#[]⟩, .slice none 0 0, .slice none 0 0] 37)
 have v3 := (z3.below hb3 z3.lt).alloc (.cells #[.int .i64 kk, .int .i64 0, .string ⟨#[]⟩, .slice none 0 0, .slice none 0 0] 37)
 have vt := (zt.below hb3 zt.lt).alloc (.cells #[.int .i64 kk, .int .i64 0, .string ⟨#[]⟩, .slice none 0 0, .slice none 0 0] 37)
 have vk : Box (w3.alloc (.cells #[.int .i64 kk, .int .i64 0, .string ⟨#[]⟩, .slice none 0 0, .slice none 0 0] 37)) w3.heap.size 37 [.int .i64 kk, .int .i64 0, .string ⟨#[]⟩, .slice none 0 0, .slice none 0 0] := Box.new w3 _ _
 have hl3 : w.heap.size + 1 + 1 < w3.heap.size := (z3.below hb3 z3.lt).lt
 have f3 : w3.cell? ⟨w.heap.size + 1, 3, none⟩ = some (.int .i64 fkind) := (z2.below hb3 z2.lt).cell 3
 have hl2 := (z2.below hb3 z2.lt).lt
 have hXTl : XT < w3.heap.size := (zt.below hb3 zt.lt).lt
 have t4 : w3.cell? ⟨XT, 4, none⟩ = some (.slice B3 ty.items.length l3) := (zt.below hb3 zt.lt).cell 4
 clear z1 z2 z3 zt hb3 hkk hw2
 go_upto_if 23 with fail
 obtain ⟨W2, hW2⟩ : ∃ W, W = w3.alloc (.cells #[.int .i64 kk, .int .i64 0, .string ⟨#[]⟩, .slice none 0 0, .slice none 0 0] 37) := ⟨_, rfl⟩
 obtain ⟨V, hV⟩ : ∃ X, X = w3.heap.size := ⟨_, rfl⟩
 rw [← hW2] at hw3 v1 v2 v3 vt vk HF HI ⊢
 rw [← hV] at vk hl3 hXTl ⊢
 have t4' : W2.cell? ⟨XT, 4, none⟩ = some (.slice B3 ty.items.length l3) := vt.cell 4
 have hlT := vt.lt
 clear hW2 hV f3 hl2 t4 v2
 have hwV : w.heap.size ≤ V := by go_light; omega
 go_cut [] from 23 to 29 (fun wx => Box wx V 37 [.int .i64 kk, .int .i64 nn, .string ⟨#[]⟩, .slice none 0 0, .slice none 0 0] ∧ Box wx XT 46 [.string ty.name, .bool ty.enum, .slice B1 ty.fields.length l1, .slice B2 ty.gone.length l2, .slice B3 ty.items.length l3] ∧ Box wx w.heap.size 24 [.slice A b.length cap] ∧ Box wx (w.heap.size + 1 + 1) 37 [.int .i64 0, .int .i64 0, .string ⟨#[]⟩, .slice none 0 0, .slice none 0 0] ∧ Below V W2 wx ∧ Below w.heap.size w wx)
 case first =>
  by_cases h4 : fkind = 4
  ·have b4 : (fkind == 4) = true := by simpa using h4
   obtain ⟨g, o, rfl, hSg, hgl⟩ := HI.out.base (HIT.out h4)
   have hc := HI.out.flat (enc := itemCells) (HIT.out h4)
   have hm : nn = (ty.items[0]'(HIT.out h4)).n := by
    rw [HN.out, if_pos h4, List.head?_eq_getElem?, List.getElem?_eq_getElem (HIT.out h4)]; rfl
   have c1 : W2.cell? ⟨g, o + 1, none⟩ = some (.int .i64 nn) := by
    rw [hm]; have := hc.at_ 1 rfl; simpa using this
   have hit0 := HIT.out h4
   have k1 := vk.frozen 1
   have k2 := vk.cell 1
   have k3 := vk.lt
   simp only [List.getElem?_cons_zero, List.getElem?_cons_succ] at k2
   clear hc hm h4
   go_wp2_with fail
   go_meet
   case rel =>
    have hx := vk.set_ 1 (.int .i64 nn)
    simp only [List.set_cons_zero, List.set_cons_succ] at hx
    exact ⟨hx, vt.far (p := ⟨V, 1, none⟩) (by show XT ≠ V; go_light; omega) _, v1.far (p := ⟨V, 1, none⟩) (by show w.heap.size ≠ V; go_light; omega) _, v3.far (p := ⟨V, 1, none⟩) (by show w.heap.size + 1 + 1 ≠ V; go_light; omega) _, (Below.refl _ _).setCell (p := ⟨V, 1, none⟩) (Nat.le_refl _) _, hw3.setCell (p := ⟨V, 1, none⟩) (by show w.heap.size ≤ V; exact hwV) _⟩
  ·have b4 : (fkind == 4) = false := by simpa using h4
   have hm : nn = 0 := by rw [HN.out, if_neg h4]
   subst hm
   clear h4
   go_wp2_with fail
   go_meet
   case rel => exact ⟨vk, vt, v1, v3, Below.refl _ _, hw3⟩
 case rest =>
  obtain ⟨zG, zT, zB, zR, hbW, hw⟩ := hcut
  obtain ⟨W3, hW3⟩ : ∃ W, W = wc := ⟨_, rfl⟩
  subst hW3
  have HF3 := Lib.hid ((RSl.fair RField.fair).keep HF.out (⟨hbW.size, fun g hg _ => hbW.block g (Nat.lt_of_lt_of_le hg hwV)⟩ : Keep (Old w) W2 W3))
  have t2 := zT.cell 2
  have lT := zT.lt
  have hV3 := zG.lt
  simp only [List.getElem?_cons_zero, List.getElem?_cons_succ] at t2
  clear zT HF HI hbW t4' vk v1 v3 vt HN HIT hlT hw3
  go_wp2_with fail
  clear t2 lT
  go_loopw [33] (fun i wr => ∃ (n : Nat) (vi vl : Value), i = .int .i64 n ∧ n ≤ ty.fields.length ∧ Rows2 (fun y => V + 1 ≤ y) (V + 1) wr V vi vl ((onesTo ty n).map (·.id)) ((onesTo ty n).map (leastOfF b (k - 1))) ∧
    Box wr V 37 [.int .i64 kk, .int .i64 nn, .string ⟨#[]⟩, vi, vl] ∧ Box wr (w.heap.size + 1 + 1) 37 [.int .i64 0, .int .i64 0, .string ⟨#[]⟩, .slice none 0 0, .slice none 0 0] ∧ Box wr w.heap.size 24 [.slice A b.length cap] ∧ Below V W3 wr) (fun i _ => ty.fields.length - (intOf i).toNat)
  case atStart => exact ⟨0, .slice none 0 0, .slice none 0 0, rfl, by go_light; omega, Rows2.new _ _ _ _ (Nat.lt_succ_self V) hV3, zG, zR, zB, Below.refl _ _⟩
  case round =>
   clear zG zR zB
   obtain ⟨n, vi, vl, rfl, hn, hR, zG, zR, zB, hbV⟩ := hrel
   by_cases hlt : n < ty.fields.length
   ·--[RND
    obtain ⟨fg, fo, rfl, hSf, hgf⟩ := HF3.out.base (by go_light; omega)
    have hc := (HF3.out.flat (enc := fieldCells) hlt).keep (⟨hbV.size, fun g hg _ => hbV.block g (Nat.lt_of_lt_of_le hg hwV)⟩ : Keep (Old w) W3 wr) hSf
    have hyes := fun h => onesTo_yes hlt h
    have hno := fun h => onesTo_no hlt h
    have hcall := fun (h : (ty.fields[n]).rule = 1) => HIH.out ty.fields[n] (List.getElem_mem hlt) h
    obtain ⟨x, hxe⟩ : ∃ x, x = ty.fields[n] := ⟨_, rfl⟩
    rw [← hxe] at hc hyes hno hcall
    obtain ⟨xid, xname, xtype, xkind, xrule⟩ := x
    have q0 : wr.cell? ⟨fg, fo + n * 5, none⟩ = some (.int .i64 xid) := hc.at_ 0 rfl
    have q1 : wr.cell? ⟨fg, fo + n * 5 + 1, none⟩ = some (.string xname) := hc.at_ 1 rfl
    have q2' : wr.cell? ⟨fg, fo + n * 5 + 2, none⟩ = some (.string xtype) := hc.at_ 2 rfl
    have q3 : wr.cell? ⟨fg, fo + n * 5 + 3, none⟩ = some (.int .i64 xkind) := hc.at_ 3 rfl
    have q4 : wr.cell? ⟨fg, fo + n * 5 + 4, none⟩ = some (.int .i64 xrule) := hc.at_ 4 rfl
    have hgl : fg < wr.heap.size := Nat.lt_of_lt_of_le hgf hbV.size
    have Hyes := Lib.hid hyes
    have Hno := Lib.hid hno
    have Hcall := Lib.hid hcall
    dsimp only at Hyes Hno Hcall
    clear hc hxe hyes hno hcall
    by_cases hr1 : xrule = 1
    ·have Hon := Lib.hid (Hyes.out hr1)
     have Hc := Lib.hid (Hcall.out hr1)
     have hrb : (xrule == 1) = true := by simpa using hr1
     clear hr1 Hyes Hno Hcall
     have hln : (onesTo ty n).length ≤ 5 := Nat.le_trans (onesTo_len ty n) hf5
     obtain ⟨ids, hids⟩ : ∃ ids, ids = (onesTo ty n).map (·.id) := ⟨_, rfl⟩
     obtain ⟨ls, hls⟩ : ∃ ls, ls = (onesTo ty n).map (leastOfF b (k - 1)) := ⟨_, rfl⟩
     have hidl : ids.length ≤ 5 := by rw [hids, List.length_map]; exact hln
     have hlsl : ls.length ≤ 5 := by rw [hls, List.length_map]; exact hln
     rw [← hids, ← hls] at hR
     have Hids := Lib.hid hids
     have Hls := Lib.hid hls
     clear hids hls hln
     obtain ⟨⟨lk, ln, lt, li, ll⟩, hlf⟩ : ∃ x, x = leastOfF b (k - 1) ⟨xid, xname, xtype, xkind, xrule⟩ := ⟨_, rfl⟩
     rw [← hlf] at Hc
     have Hlf := Lib.hid hlf
     clear hlf
     have hVX := fun y hy => (hR.ilt (x := y) hy).2
     have hVY := fun y hy => (hR.llt (x := y) hy).2
     have c3 := zG.cell 3
     have lV := zG.lt
     have HVw := Lib.hid lV
     simp only [List.getElem?_cons_zero, List.getElem?_cons_succ] at c3
     have hRa := (hR.alloc (.cells #[.int .i64 xid, .string xname, .string xtype, .int .i64 xkind, .int .i64 xrule] 55)).alloc (.cells #[.int .i64 xid] 3)
     have zGa := (zG.alloc (.cells #[.int .i64 xid, .string xname, .string xtype, .int .i64 xkind, .int .i64 xrule] 55)).alloc (.cells #[.int .i64 xid] 3)
     have zRa := (zR.alloc (.cells #[.int .i64 xid, .string xname, .string xtype, .int .i64 xkind, .int .i64 xrule] 55)).alloc (.cells #[.int .i64 xid] 3)
     have zBa := (zB.alloc (.cells #[.int .i64 xid, .string xname, .string xtype, .int .i64 xkind, .int .i64 xrule] 55)).alloc (.cells #[.int .i64 xid] 3)
     have zX : Box ((wr.alloc (.cells #[.int .i64 xid, .string xname, .string xtype, .int .i64 xkind, .int .i64 xrule] 55)).alloc (.cells #[.int .i64 xid] 3)) wr.heap.size 55 [.int .i64 xid, .string xname, .string xtype, .int .i64 xkind, .int .i64 xrule] := (Box.new wr _ _).alloc _
     have hbVa := (hbV.alloc (Nat.le_trans (Nat.le_of_lt hV3) hbV.size) (.cells #[.int .i64 xid, .string xname, .string xtype, .int .i64 xkind, .int .i64 xrule] 55)).alloc (by simp; go_light; have := hbV.size; omega) (.cells #[.int .i64 xid] 3)
     clear hR zG zR zB hbV
     go_wp2_with (at_builtin; go_must (refine wl_append _ rfl (.tmp 41) (.tmp 44) rfl sl_ints RInt.fair rfl rfl hRa.ids (Src.one (es := [.int .i64 xid]) (y := xid) rfl (Ones.of_all rfl) rfl (Lies.newAt (by simp))) (NoT.lt _) ?_ ?_ ?_))
     ·simp; go_light; omega
     ·exact hRa.hb
     intro v1 w5 ho1 hg1 hv1
     have zG1 := zGa.grown hg1 (hRa.nei (Nat.lt_succ_self V))
     have zR1 := zRa.grown hg1 (hRa.nei (by go_light; omega))
     have zB1 := zBa.grown hg1 (hRa.nei (by go_light; omega))
     have zX1 := zX.grown hg1 (fun e => by have := hVX _ e; go_light; omega)
     have hR1 := hRa.push_id ho1 hg1 (by rcases hv1 with h | h; exact .inl h; exact .inr (by rw [h]; simp))
     have hb1 := below_grown hbVa hg1 (by go_light; have := hbVa.size; omega) (fun g' h => by have := (hRa.ilt h).1; go_light; omega)
     obtain ⟨R1, p1, rfl, _⟩ := ho1.form
     simp only [List.length_append, List.length_cons, List.length_nil, Nat.zero_add] at hR1
     have fz3 := zG1.frozen 3
     have cz3 := zG1.cell 3
     have lz := zG1.lt
     simp only [List.getElem?_cons_zero, List.getElem?_cons_succ] at cz3
     clear hRa zGa zRa zBa zX hbVa c3 lV ho1 hg1 hv1 q0 q1 q2' q3 q4 hgl
     go_upto_region 10 with fail
     replace hR1 := hR1.setCell 3 (.slice R1 (ids.length + 1) p1)
     replace zG1 := zG1.set_ 3 (.slice R1 (ids.length + 1) p1)
     simp only [List.set_cons_zero, List.set_cons_succ] at zG1
     replace zR1 := zR1.far (p := ⟨V, 3, none⟩) (by show w.heap.size + 1 + 1 ≠ V; go_light; omega) (.slice R1 (ids.length + 1) p1)
     replace zB1 := zB1.far (p := ⟨V, 3, none⟩) (by show w.heap.size ≠ V; go_light; omega) (.slice R1 (ids.length + 1) p1)
     replace zX1 := zX1.far (p := ⟨V, 3, none⟩) (by show wr.heap.size ≠ V; have := HVw.out; go_light; omega) (.slice R1 (ids.length + 1) p1)
     replace hb1 := hb1.setCell (p := ⟨V, 3, none⟩) (Nat.le_refl _) (.slice R1 (ids.length + 1) p1)
     clear fz3 cz3 lz
     obtain ⟨Q2, q2, rfl, _⟩ := hR1.l.form
     generalize w5.setCell ⟨V, 3, none⟩ (.slice R1 (ids.length + 1) p1) = W0 at *
     generalize hXX : wr.heap.size = X at *
     clear hXX
     have hVX2 := HVw.out
     have HSK : Hid (∀ W', Box W' V 37 [.int .i64 kk, .int .i64 nn, .string ⟨#[]⟩, .slice R1 (ids.length + 1) p1, .slice Q2 ls.length q2] → Box W' X 55 [.int .i64 xid, .string xname, .string xtype, .int .i64 xkind, .int .i64 xrule] → Box W' w.heap.size 24 [.slice A b.length cap] → (W'.cell? ⟨V, 4, none⟩ = some (.slice Q2 ls.length q2) ∧ W'.cell? ⟨w.heap.size, 0, none⟩ = some (.slice A b.length cap) ∧ (W'.cell? ⟨X, 0, none⟩ = some (.int .i64 xid) ∧ W'.cell? ⟨X, 1, none⟩ = some (.string xname) ∧ W'.cell? ⟨X, 2, none⟩ = some (.string xtype) ∧ W'.cell? ⟨X, 3, none⟩ = some (.int .i64 xkind) ∧ W'.cell? ⟨X, 4, none⟩ = some (.int .i64 xrule)))) := fun W' h1 h2 h3 => ⟨h1.cell 4, h3.cell 0, h2.five⟩
     have hR := hR1.drew
     have zG := zG1.drew
     have zR := zR1.drew
     have zX := zX1.drew
     have zB := zB1.drew
     have hbV := below_drew hb1
     clear hR1 zG1 zR1 zX1 zB1 hb1
     have hS := HSK.out _ zG zX zB
     refine late_start (fun W' => W'.cell? ⟨V, 4, none⟩ = some (.slice Q2 ls.length q2) ∧ W'.cell? ⟨w.heap.size, 0, none⟩ = some (.slice A b.length cap) ∧ (W'.cell? ⟨X, 0, none⟩ = some (.int .i64 xid) ∧ W'.cell? ⟨X, 1, none⟩ = some (.string xname) ∧ W'.cell? ⟨X, 2, none⟩ = some (.string xtype) ∧ W'.cell? ⟨X, 3, none⟩ = some (.int .i64 xkind) ∧ W'.cell? ⟨X, 4, none⟩ = some (.int .i64 xrule))) 7 (by kernel_rfl) ?_
     generalize hWd : W0.drew = Wd at *
     clear hWd W0
     refine tkL 0 hS ?_
     try simp only [pu]
     refine tkL 1 hS ?_
     try simp only [pu]
     refine tkL 2 hS ?_
     try simp only [pu]
     refine tkL 3 hS ?_
     try simp only [pu]
     have hRq := hR
     refine late_one (i := 4) rfl (by kernel_rfl) (fun K hK => ?_)
     go_simp
     refine (Hc.out _ ((RSl.fair RType.fair).below HB.out (hw.trans (hbV.mono hwV)))).mono ?_
     rintro e w7 ⟨cs7, rfl, hr7, hb7⟩
     obtain ⟨G1, g1, G2, g2, rfl, -, -⟩ := hr7.parts
     replace hR := hR.below hb7
     replace zG := zG.below hb7 zG.lt
     replace zR := zR.below hb7 zR.lt
     replace zB := zB.below hb7 zB.lt
     replace zX := zX.below hb7 zX.lt
     replace hbV := below_via hbV hb7 (by have := zG.lt; have := hRq.hb; go_light; omega)
     replace hS := HSK.out _ zG zX zB
     refine hK.out _ _ (fun _ => hS) ?_
     clear hK K
     try simp only [pu]
     refine late_one (i := 5) rfl (by kernel_rfl) (fun K hK => ?_)
     go_simp
     have hZ := Box.newB hbV 37 [.int .i64 lk, .int .i64 ln, .string lt, .slice G1 li.length g1, .slice G2 ll.length g2]
     replace hR := hR.alloc (.cells #[.int .i64 lk, .int .i64 ln, .string lt, .slice G1 li.length g1, .slice G2 ll.length g2] 37)
     replace zG := zG.alloc (.cells #[.int .i64 lk, .int .i64 ln, .string lt, .slice G1 li.length g1, .slice G2 ll.length g2] 37)
     replace zR := zR.alloc (.cells #[.int .i64 lk, .int .i64 ln, .string lt, .slice G1 li.length g1, .slice G2 ll.length g2] 37)
     replace zB := zB.alloc (.cells #[.int .i64 lk, .int .i64 ln, .string lt, .slice G1 li.length g1, .slice G2 ll.length g2] 37)
     replace zX := zX.alloc (.cells #[.int .i64 lk, .int .i64 ln, .string lt, .slice G1 li.length g1, .slice G2 ll.length g2] 37)
     replace hbV := hbV.alloc (by have := hR.hb; simp at this; go_light; omega) (.cells #[.int .i64 lk, .int .i64 ln, .string lt, .slice G1 li.length g1, .slice G2 ll.length g2] 37)
     replace hS := HSK.out _ zG zX zB
     refine hK.out _ _ (fun _ => hS) ?_
     clear hK K
     try simp only [pu]
     refine late_one (i := 6) rfl (by kernel_rfl) (fun K hK => ?_)
     refine step_append _ rfl (.tmp 48) (.tmp 52) rfl sl_vals RVal.fair rfl rfl hR.lrow (Src.one (es := [.int .i64 lk, .int .i64 ln, .string lt, .slice G1 li.length g1, .slice G2 ll.length g2]) (y := .mk lk ln lt li ll) rfl (Ones.of_all rfl) (hRq.apart (RVal.fair.keep hr7 (Keep.alloc _ _ _)) (fun y hy _ => ⟨.inl hy, Nat.le_trans hRq.hb hy⟩)) hZ.lies) (fun _ h => h.2) (by simp; go_light; omega) hR.hb ?_
     intro v9 w9 ho9 hg9 hv9
     have hR' := hR.push_l ho9 hg9 hv9
     replace zG := zG.grownR hR.l (.inl (by go_light; omega)) hg9
     replace zR := zR.grownR hR.l (.inl (by go_light; omega)) hg9
     replace zB := zB.grownR hR.l (.inl (by go_light; omega)) hg9
     replace zX := zX.grown hg9 (fun e => by have := hVY _ e; go_light; omega)
     replace hbV := below_grown hbV hg9 (by have := hR.hb; go_light; omega) (fun g' h => by have := (hR.llt h).1; go_light; omega)
     replace hR := hR'
     clear hR'
     obtain ⟨R2, p2, rfl, _⟩ := hR.l.form
     replace hS := HSK.out _ zG zX zB
     have fz4 := zG.frozen 4
     have cz4 := zG.cell 4
     have lz := zG.lt
     simp only [List.getElem?_cons_zero, List.getElem?_cons_succ] at cz4
     refine hK.out _ _ (fun _ => hS) ?_
     clear hK K
     try simp only [pu]
     refine late_one (i := 7) rfl (by kernel_rfl) (fun K hK => ?_)
     go_simp
     refine hK.out _ _ (fun h => absurd h (by decide)) ?_
     clear hK K
     try simp only [pu]
     refine late_one (i := 8) rfl (by kernel_rfl) (fun K hK => ?_)
     go_simp
     refine hK.out _ _ (fun h => absurd h (by decide)) ?_
     clear hK K
     try simp only [pu]
     refine late_done (by kernel_rfl) ?_ _
     simp only [List.length_append, List.length_cons, List.length_nil, Nat.zero_add] at hR
     replace hR := hR.setCell 4 (.slice R2 (ls.length + 1) p2)
     replace zG := zG.set_ 4 (.slice R2 (ls.length + 1) p2)
     simp only [List.set_cons_zero, List.set_cons_succ] at zG
     replace zR := zR.far (p := ⟨V, 4, none⟩) (by show w.heap.size + 1 + 1 ≠ V; go_light; omega) (.slice R2 (ls.length + 1) p2)
     replace zB := zB.far (p := ⟨V, 4, none⟩) (by show w.heap.size ≠ V; go_light; omega) (.slice R2 (ls.length + 1) p2)
     replace hbV := hbV.setCell (p := ⟨V, 4, none⟩) (Nat.le_refl _) (.slice R2 (ls.length + 1) p2)
     have Hids2 : Hid (ids ++ [xid] = (onesTo ty (n + 1)).map (·.id)) := by show _ = _; rw [Hon.out, List.map_append, ← Hids.out]; rfl
     have Hls2 : Hid (ls ++ [ValueD.mk lk ln lt li ll] = (onesTo ty (n + 1)).map (leastOfF b (k - 1))) := by show _ = _; rw [Hon.out, List.map_append, ← Hls.out, Hlf.out]; rfl
     clear hS fz4 cz4 lz hg9 hv9 ho9 zX hZ hr7 hb7 hRq hVX hVY
     go_wp2_with fail
     go_roundw
     case rel => exact ⟨n + 1, _, _, by go_num, by go_light; omega, by rw [← Hids2.out, ← Hls2.out]; exact hR, zG, zR, zB, hbV⟩
     case measure => go_light; simp [intOf]; omega
    ·have Hon := Lib.hid (Hno.out hr1)
     have hrb : (xrule == 1) = false := by simpa using hr1
     clear Hyes Hno Hcall hr1
     go_wp2_with fail
     go_roundw
     case rel => exact ⟨n + 1, vi, vl, by go_num, by go_light; omega, by rw [Hon.out]; exact hR.alloc (.cells #[.int .i64 xid, .string xname, .string xtype, .int .i64 xkind, .int .i64 xrule] 55), zG.alloc _, zR.alloc _, zB.alloc _, hbV.alloc (Nat.le_trans (Nat.le_of_lt hV3) hbV.size) _⟩
     case measure => go_light; simp [intOf]; omega
   ·--[END
    have hall := onesTo_all (t := ty) (k := n) (by go_light; omega)
    rw [hall] at hR
    obtain ⟨R1, p1, rfl, _⟩ := hR.ids.form
    obtain ⟨R2, p2, rfl, _⟩ := hR.l.form
    have hln : (onesL ty).length ≤ 5 := by rw [← hall]; exact Nat.le_trans (onesTo_len ty n) hf5
    have hR2 := Rows2.farCells (g' := w.heap.size + 1 + 1) (hR.nei (by go_light; omega)) (hR.nel (by go_light; omega)) (by show ¬ (V + 1 ≤ w.heap.size + 1 + 1); go_light; omega) [.int .i64 kk, .int .i64 nn, .string ⟨#[]⟩, .slice R1 ((onesL ty).map (·.id)).length p1, .slice R2 ((onesL ty).map (leastOfF b (k - 1))).length p2] 0 hR
    have hrd := hR2.read (S := New w) (fun y hy => (show w.heap.size ≤ y by go_light; omega)) (fun y hy => (show w.heap.size ≤ y by have : V + 1 ≤ y := hy; go_light; omega)) (by rw [List.length_map]; go_light; omega) (by rw [List.length_map]; go_light; omega) kk nn ⟨#[]⟩
    rw [← HR.out] at hrd
    have hwF := hw.trans (hbV.mono hwV)
    have hb5 := zR.setCells [.int .i64 kk, .int .i64 nn, .string ⟨#[]⟩, .slice R1 ((onesL ty).map (·.id)).length p1, .slice R2 ((onesL ty).map (leastOfF b (k - 1))).length p2] rfl
    have hw5 := below_setCells (g := w.heap.size + 1 + 1) (by go_light; omega) [.int .i64 kk, .int .i64 nn, .string ⟨#[]⟩, .slice R1 ((onesL ty).map (·.id)).length p1, .slice R2 ((onesL ty).map (leastOfF b (k - 1))).length p2] 0 _ hwF
    generalize ((onesL ty).map (·.id)).length = L1 at *
    generalize ((onesL ty).map (leastOfF b (k - 1))).length = L2 at *
    obtain ⟨e0, e1, e2, e3, e4⟩ := zG.five
    have lG := zG.lt
    obtain ⟨r0, r1, r2, r3, r4⟩ := zR.five
    have g0 := zR.frozen 0
    have g1 := zR.frozen 1
    have g2 := zR.frozen 2
    have g3 := zR.frozen 3
    have g4 := zR.frozen 4
    have hlr := zR.lt
    have Hrd := Lib.hid hrd
    have Hb5 := Lib.hid hb5
    have Hw5 := Lib.hid hw5
    clear hrd hR hR2 hall hln zB hb5 hw5 hwF HR
    go_wp2_with fail
    change bodyPost _ _ _ _ _ (setCells wr (w.heap.size + 1 + 1) 0 [.int .i64 kk, .int .i64 nn, .string ⟨#[]⟩, .slice R1 L1 p1, .slice R2 L2 p2])
    exact bodyPost_ret (leastBy_results Hb5.out rfl) rfl ⟨_, rfl, Hrd.out, Hw5.out⟩
theorem leastBy_any (vb : Value) (b : BookD) (hg : goodF b = 0) : ∀ (k : Nat), LeastByAt vb b k
 | 0 => leastBy_succ vb b hg 0 (fun k' h => by cases h)
 | k + 1 => leastBy_succ vb b hg (k + 1) (fun k' h => by cases h; exact leastBy_any vb b hg k)
end Go.Proofs.YtfidfakcbjoilaaGreatDoor
