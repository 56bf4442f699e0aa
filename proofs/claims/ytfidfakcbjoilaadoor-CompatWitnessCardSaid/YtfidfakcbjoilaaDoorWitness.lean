/- The walk of compat.Witness. -/
import Derived.Test.YtfidfakcbjoilaaDoorBroken
import Derived.Test.YtfidfakcbjoilaaDoorWhys
import Derived.Test.YtfidfakcbjoilaaDoorCompatLawW
set_option linter.all false
set_option maxRecDepth 100000
set_option maxHeartbeats 8000000
namespace Go.Proofs.YtfidfakcbjoilaaDoor
open Go.RowKit
theorem Witness_results {W : World} {a : Act} {g : Nat} {c0 c1 c2 c3 c4 : Value} {n : Int} (hb : Box W g 28 [c0, c1, c2, c3, c4]) (h4 : a.tmps.getD 6 undef = .pointer (some ⟨g, 0, none⟩)) (h5 : a.tmps.getD 7 undef = .int .i64 n) :
  (results Tryd.f12 a.tmps).run Tryd.prog W = .ok (.tuple #[.agg #[c0, c1, c2, c3, c4], .int .i64 n]) W := by
 obtain ⟨e0, e1, e2, e3, e4⟩ := hb.five
 simp only [Array.getD_eq_getD_getElem?] at h4 h5
 simp [results, Tryd.results12, go_sem, h4, h5, e0, e1, e2, e3, e4]
def witOf (w r : BookD) (P : List PairD) : Option (Nat × PairD × FieldD × FieldD × Int) → ValueD × Int
 | none => (.zero, 3)
 | some (i, p, f, g, y) => (wrapF w P (i + 1) i (withF w (typeOf w p.w) f.id (brokenL w r f g y)), 0)
def skipF (w r : BookD) (P : List PairD) (k : Nat) (q : PairD) (fs : List FieldD) : Option (Nat × PairD × FieldD × FieldD × Int) := match firstF w r q fs with | some x => some (k, q, x) | none => seekF w r (k + 1) (P.drop (k + 1))
theorem seek_at {w r : BookD} {P : List PairD} {k : Nat} (hk : k < P.length) : seekF w r k (P.drop k) = skipF w r P k P[k] (typeOf w P[k].w).fields := by
 rw [List.drop_eq_getElem_cons hk, seekF]; rfl
theorem skip_none {w r : BookD} {P : List PairD} {k : Nat} {q : PairD} {f : FieldD} {fs : List FieldD} (h : fieldOf (typeOf r q.r) f.id = none) : skipF w r P k q (f :: fs) = skipF w r P k q fs := by unfold skipF; rw [firstF, h]
theorem skip_empty {w r : BookD} {P : List PairD} {k : Nat} {q : PairD} {f g : FieldD} {fs : List FieldD} (h : fieldOf (typeOf r q.r) f.id = some g) (hy : whysF w r f g = []) : skipF w r P k q (f :: fs) = skipF w r P k q fs := by unfold skipF; rw [firstF, h]; simp only [hy]
theorem skip_some {w r : BookD} {P : List PairD} {k : Nat} {q : PairD} {f g : FieldD} {fs : List FieldD} {y : Int} {ys : List Int} (h : fieldOf (typeOf r q.r) f.id = some g) (hy : whysF w r f g = y :: ys) : skipF w r P k q (f :: fs) = some (k, q, f, g, y) := by unfold skipF; rw [firstF, h]; simp only [hy]
theorem pairs_facts {w r : BookD} {name : ByteArray} (hw : goodF w = 0) (hr : goodF r = 0) (hn1 : noneB w name = false) (hn2 : noneB r name = false) :
  (∀ p ∈ pairsF w r name, noneB w p.w = false) ∧ FromOk (pairsF w r name) ∧ (∀ p ∈ pairsF w r name, ∀ f ∈ (typeOf w p.w).fields, fieldOf (typeOf w p.w) f.id = some f) := by
 have hok : PairsOk w r (pairsF w r name) := pairsGo_ok hw hr 18 0 _ (pairs_start hn1 hn2)
 have hpath : PathOk w r (pairsF w r name) := path_go 18 0 _ (by
  intro i p hp
  cases i with
  | zero =>
   simp only [List.getElem?_cons_zero, Option.some.injEq] at hp
   subst hp
   exact .inl ⟨rfl, (show (-1 : Int) < 0 by decide)⟩
  | succ i => simp at hp)
 have h0 : (pairsF w r name)[0]? = some ⟨name, name, -1, 0⟩ := go_keeps 18 0 _ rfl
 have hmsg := pairs_msg hw hr hok hpath h0 (none_of hn1).2 (none_of hn2).2
 refine ⟨fun p hp => ?_, fromOk hpath, fun p hp f hf => fieldOf_mem (good_msg hw (typeOf_mem (hok.2 p hp).1) (hmsg p hp).1) hf⟩
 have h1 := (hok.2 p hp).1
 have h2 := (hmsg p hp).1
 unfold typeOf at h2
 unfold noneB
 cases hf : findT w p.w with
 | none => rw [hf] at h1; cases h1
 | some t => rw [hf] at h2; exact h2
theorem witness_after {w Wd w7 w8 : World} {ds cs zs : List Value} {x : ValueD} {t : TypeId} (hw : Below w.heap.size w w8) (hl : w.heap.size + 1 + 1 < Wd.heap.size) (hl7 : Wd.heap.size ≤ w7.heap.size) (z : Box w8 (w.heap.size + 1 + 1) t cs) (h : RVal (Un (New Wd) w7) w8 ds x) (hz : zs.length = cs.length) :
  Box (setCells w8 (w.heap.size + 1 + 1) 0 zs) (w.heap.size + 1 + 1) t zs ∧ RVal (New w) (setCells w8 (w.heap.size + 1 + 1) 0 zs) ds x ∧ Below w.heap.size w (setCells w8 (w.heap.size + 1 + 1) 0 zs) :=
 ⟨z.setCells zs hz, RVal.fair.mono (RVal.fair.keep h (Keep.setCells (g := w.heap.size + 1 + 1) (by
  intro h
  rcases h with h | h
  ·have : Wd.heap.size ≤ w.heap.size + 1 + 1 := h
   omega
  ·have : w7.heap.size ≤ w.heap.size + 1 + 1 := h
   omega) zs 0 w8)) (fun y hy _ => by
  show w.heap.size ≤ y
  rcases hy with h | h
  ·have : Wd.heap.size ≤ y := h
   omega
  ·have : w7.heap.size ≤ y := h
   omega), below_setCells (by omega) zs 0 _ hw⟩
theorem witness_any (S : Nat → Prop) (vw vr : Value) (bw br : BookD) (name : ByteArray) (w : World) (hb1 : RSl 5 96 RType S w [vw] bw) (hb2 : RSl 5 96 RType S w [vr] br) (hW : Words w) (o1 : BookOk bw) (o2 : BookOk br) :
  Calls Tryd.prog 12 #[.agg #[vw], .agg #[vr], .string name] w (ValCode w (witnessF bw br name)) := by
 obtain ⟨AW, cw, rfl, -, -⟩ := hb1.form
 obtain ⟨AR, cr, rfl, -, -⟩ := hb2.form
 obtain ⟨x1, x2, x3, x4⟩ := boxes3 w [.slice AW bw.length cw] [.slice AR br.length cr] [.int .i64 0, .int .i64 0, .string ⟨#[]⟩, .slice none 0 0, .slice none 0 0] 24 24 28
 have H1 := Lib.hid ((RSl.fair RType.fair).old hb1)
 have H2 := Lib.hid ((RSl.fair RType.fair).old hb2)
 have hbo := Lib.hid (fun W (h : Below w.heap.size w W) => both_any S _ _ bw br name W ((RSl.fair RType.fair).below hb1 h) ((RSl.fair RType.fair).below hb2 h) (hW.below h) o1 o2)
 have hbr := Lib.hid (fun (hg : goodF bw = 0) (n : ByteArray) (hn : noneB bw n = false) (fi fk fr gi gk gr : Int) (fn ft gn gt : ByteArray) (hf : fieldOf (typeOf bw n) fi = some ⟨fi, fn, ft, fk, fr⟩) (y : Int) (W : World) (h : Below w.heap.size w W) => broken_any S S _ _ bw br hg o1 n hn fi fk fr gi gk gr fn ft gn gt hf y W (hW.below h) ((RSl.fair RType.fair).below hb1 h) ((RSl.fair RType.fair).below hb2 h))
 have hwr := Lib.hid (fun (hg : goodF bw = 0) (S' SP : Nat → Prop) (vp : Value) (P : List PairD) (hP : ∀ p ∈ P, noneB bw p.w = false) (hf : FromOk P) (i0 : Nat) (hi0 : i0 < P.length) (hPl : P.length ≤ 16) (cs : List Value) (v0 : ValueD) (W : World) (h : Below w.heap.size w W) (hp : RSl 4 48 RPair SP W [vp] P) (hr : RVal S' W cs v0) => wrapped_any S S' SP _ vp bw hg o1 P hP hf i0 hi0 hPl cs v0 W ((RSl.fair RType.fair).below hb1 h) (hW.below h) hp hr)
 obtain ⟨p, hp⟩ : ∃ p, p = witnessF bw br name := ⟨_, rfl⟩
 obtain ⟨b, hb⟩ : ∃ b, b = bothF bw br name := ⟨_, rfl⟩
 have Hp : Hid (p = if b ≠ 0 then (.zero, b) else witOf bw br (pairsF bw br name) (seekF bw br 0 (pairsF bw br name))) := by
  show _ = _
  rw [hp, hb, witnessF]
  split
  ·rfl
  ·cases seekF bw br 0 (pairsF bw br name) <;> rfl
 rw [← hp]
 rw [← hb] at hbo
 have Hb := Lib.hid hb
 have z1 := x1.cell 0
 have z2 := x2.cell 0
 have l1 := x1.lt
 have l2 := x2.lt
 clear hb1 hb2 hp hb hW o1 o2
 go_enter Tryd.func12, Tryd.ntmps12
 go_wp2_with fail
 refine (hbo.out _ x4).mono ?_
 rintro e w1 ⟨rfl, hb1⟩
 have y1 := x1.below hb1 x1.lt
 have y2 := x2.below hb1 x2.lt
 have y3 := x3.below hb1 x3.lt
 have hG1 := below_via x4 hb1 x4.size
 clear z1 z2 l1 l2 x1 x2 x3 x4 hb1 hbo
 by_cases h0 : b = 0
 ·subst h0
  have HZ := Lib.hid (bothF_ok Hb.out.symm)
  have z1 := y1.cell 0
  have z2 := y2.cell 0
  have l1 := y1.lt
  have l2 := y2.lt
  have hpa := Lib.hid (pairs_any (Old w) _ _ bw br name w1 ((RSl.fair RType.fair).below H1.out hG1) ((RSl.fair RType.fair).below H2.out hG1) HZ.out.1 HZ.out.2.1 HZ.out.2.2.1 HZ.out.2.2.2)
  go_wp2_with fail
  refine hpa.out.mono ?_
  rintro e V ⟨vp, rfl, hvp, hb2⟩
  have u1 := y1.below hb2 y1.lt
  have u2 := y2.below hb2 y2.lt
  have u3 := y3.below hb2 y3.lt
  have hG2 := below_via hG1 hb2 hG1.size
  obtain ⟨AP, cp, rfl, hpc, hpb⟩ := hvp.form
  have Hpf := Lib.hid (pairs_facts HZ.out.1 HZ.out.2.1 HZ.out.2.2.1 HZ.out.2.2.2)
  obtain ⟨P, hP⟩ : ∃ P, P = pairsF bw br name := ⟨_, rfl⟩
  rw [← hP] at hvp Hp Hpf
  rw [← hP]
  have Hvp := Lib.hid hvp
  have hp16 : P.length ≤ 16 := by rw [hP]; exact sixteen HZ.out.1 HZ.out.2.1 (pairsGo_ok HZ.out.1 HZ.out.2.1 _ _ _ (pairs_start HZ.out.2.2.1 HZ.out.2.2.2))
  obtain ⟨sk, hsk⟩ : ∃ s, s = seekF bw br 0 P := ⟨_, rfl⟩
  have Hp3 : Hid (p = witOf bw br P sk) := by show _ = _; rw [Hp.out, if_neg (by simp), hsk]
  have Hsk := Lib.hid hsk
  clear z1 z2 l1 l2 y1 y2 y3 hG1 hb2 hpa hpc hpb hvp hP hsk Hp
  go_wp2_with fail
  go_loopw [35] (fun c35 wr => ∃ k : Nat, c35 = .int .i64 k ∧ k ≤ P.length ∧ Hid (sk = seekF bw br k (P.drop k)) ∧ Below V.heap.size V wr) (fun c35 _ => P.length - (intOf c35).toNat)
  case atStart => exact ⟨0, rfl, Nat.zero_le _, Hsk, Below.here V⟩
  case round =>
   clear Hsk
   obtain ⟨k, rfl, hk, Hs, hB⟩ := hrel
   by_cases hlt : k < P.length
   ·--[RND
    have hlt' : (k : Int) < (P.length : Int) := by omega
    have hvp := (RSl.fair RPair.fair).below Hvp.out hB
    obtain ⟨gp, op, es, rfl, hSp, hgp, -, hre, hcp⟩ := hvp.at_ hlt
    have Hsq : Hid (sk = skipF bw br P k P[k] (typeOf bw P[k].w).fields) := by show _ = _; rw [Hs.out]; exact seek_at hlt
    have hqm := List.getElem_mem hlt
    obtain ⟨q, hq⟩ : ∃ q, q = P[k] := ⟨_, rfl⟩
    rw [← hq] at hre Hsq hqm
    obtain rfl : es = pairCells q := hre
    have Hn := Lib.hid (Hpf.out.1 q hqm)
    have Hff := Lib.hid (Hpf.out.2.2 q hqm)
    have f1 := Lib.hid (fun W (h : Below w.heap.size w W) => find_any (Old w) _ bw q.w W ((RSl.fair RType.fair).below H1.out h))
    have f2 := Lib.hid (fun W (h : Below w.heap.size w W) => find_any (Old w) _ br q.r W ((RSl.fair RType.fair).below H2.out h))
    obtain ⟨pw, pr, pf, pi⟩ := q
    have q0 : wr.cell? ⟨gp, op + k * 4, none⟩ = some (.string pw) := hcp.at_ 0 rfl
    have q1 : wr.cell? ⟨gp, op + k * 4 + 1, none⟩ = some (.string pr) := hcp.at_ 1 rfl
    have q2 : wr.cell? ⟨gp, op + k * 4 + 2, none⟩ = some (.int .i64 pf) := hcp.at_ 2 rfl
    have q3 : wr.cell? ⟨gp, op + k * 4 + 3, none⟩ = some (.int .i64 pi) := hcp.at_ 3 rfl
    have bT := Box.new wr 48 [.string pw, .string pr, .int .i64 pf, .int .i64 pi]
    have hB3 := hB.alloc hB.size (.cells [.string pw, .string pr, .int .i64 pf, .int .i64 pi].toArray 48)
    have Hkl := Lib.hid hlt
    clear hvp hSp hcp hq hqm Hs
    go_upto_region 8 with fail
    clear q0 q1 q2 q3 hgp
    generalize wr.heap.size = T at bT ⊢
    generalize (World.alloc wr _) = w3 at bT hB3 ⊢
    have y1 := u1.below hB3 u1.lt
    have y2 := u2.below hB3 u2.lt
    have hG3 := below_via hG2 hB3 hG2.size
    have z1 := y1.cell 0
    have z2 := y2.cell 0
    have b0 : w3.cell? ⟨T, 0, none⟩ = some (.string pw) := bT.cell 0
    have l1 := y1.lt
    have l2 := y2.lt
    have lT := bT.lt
    clear hB
    go_wp2_with fail
    refine (f1.out _ hG3).mono ?_
    rintro e w4 ⟨cs1, rfl, hr1, hb4⟩
    obtain ⟨t1, ht1⟩ : ∃ t, t = (findT bw pw).getD .zero := ⟨_, rfl⟩
    have Ht1 := Lib.hid ht1
    rw [← ht1] at hr1
    obtain ⟨P1, p1, P2, p2, P3, p3, rfl, -, -, -⟩ := hr1.parts
    have bT4 := (bT.below hb4 bT.lt).alloc (.cells [.string t1.name, .bool t1.enum, .slice P1 t1.fields.length p1, .slice P2 t1.gone.length p2, .slice P3 t1.items.length p3].toArray 52)
    have hB4 := (below_via hB3 hb4 hB3.size).alloc (below_via hB3 hb4 hB3.size).size (.cells [.string t1.name, .bool t1.enum, .slice P1 t1.fields.length p1, .slice P2 t1.gone.length p2, .slice P3 t1.items.length p3].toArray 52)
    have k1 := Box.new w4 52 [.string t1.name, .bool t1.enum, .slice P1 t1.fields.length p1, .slice P2 t1.gone.length p2, .slice P3 t1.items.length p3]
    have hr1' := RType.fair.below (RType.fair.below hr1 hb4) ((Below.here w4).alloc (Nat.le_refl _) (.cells [.string t1.name, .bool t1.enum, .slice P1 t1.fields.length p1, .slice P2 t1.gone.length p2, .slice P3 t1.items.length p3].toArray 52))
    clear z1 z2 b0 l1 l2 lT y1 y2 hG3 bT hB3 hr1 hb4 ht1
    go_upto_region 9 with fail
    generalize w4.heap.size = Y1 at k1 ⊢
    generalize (World.alloc w4 _) = w5 at bT4 hB4 k1 hr1' ⊢
    have y1 := u1.below hB4 u1.lt
    have y2 := u2.below hB4 u2.lt
    have hG5 := below_via hG2 hB4 hG2.size
    have z2 := y2.cell 0
    have b1 : w5.cell? ⟨T, 1, none⟩ = some (.string pr) := bT4.cell 1
    have l2 := y2.lt
    have lT := bT4.lt
    go_wp2_with fail
    refine (f2.out _ hG5).mono ?_
    rintro e w6 ⟨cs2, rfl, hr2, hb6⟩
    obtain ⟨tz, ht2⟩ : ∃ t, t = (findT br pr).getD .zero := ⟨_, rfl⟩
    have Ht2 := Lib.hid ht2
    rw [← ht2] at hr2
    obtain ⟨R1, r1, R2, r2, R3, r3, rfl, -, -, -⟩ := hr2.parts
    have bT6 := (bT4.below hb6 bT4.lt).alloc (.cells [.string tz.name, .bool tz.enum, .slice R1 tz.fields.length r1, .slice R2 tz.gone.length r2, .slice R3 tz.items.length r3].toArray 52)
    have hB6 := (below_via hB4 hb6 hB4.size).alloc (below_via hB4 hb6 hB4.size).size (.cells [.string tz.name, .bool tz.enum, .slice R1 tz.fields.length r1, .slice R2 tz.gone.length r2, .slice R3 tz.items.length r3].toArray 52)
    have k1' := (k1.below hb6 k1.lt).alloc (.cells [.string tz.name, .bool tz.enum, .slice R1 tz.fields.length r1, .slice R2 tz.gone.length r2, .slice R3 tz.items.length r3].toArray 52)
    have k2 := Box.new w6 52 [.string tz.name, .bool tz.enum, .slice R1 tz.fields.length r1, .slice R2 tz.gone.length r2, .slice R3 tz.items.length r3]
    have hr1'' := RType.fair.below (RType.fair.below hr1' hb6) ((Below.here w6).alloc (Nat.le_refl _) (.cells [.string tz.name, .bool tz.enum, .slice R1 tz.fields.length r1, .slice R2 tz.gone.length r2, .slice R3 tz.items.length r3].toArray 52))
    have hr2' := RType.fair.below (RType.fair.below hr2 hb6) ((Below.here w6).alloc (Nat.le_refl _) (.cells [.string tz.name, .bool tz.enum, .slice R1 tz.fields.length r1, .slice R2 tz.gone.length r2, .slice R3 tz.items.length r3].toArray 52))
    clear z2 b1 l2 lT y1 y2 hG5 bT4 hB4 k1 hr1' hr2 hb6 ht2 f1 f2
    go_upto_region 10 with fail
    generalize w6.heap.size = Y2 at k2 ⊢
    generalize (World.alloc w6 _) = V2 at bT6 hB6 k1' k2 hr1'' hr2' ⊢
    have y12 : V2.cell? ⟨Y1, 2, none⟩ = some (.slice P1 t1.fields.length p1) := k1'.cell 2
    have y1l := k1'.lt
    have hFl := (RType.rows_ hr1'').1
    obtain ⟨_, _, -, -, hfb⟩ := hFl.form
    have HFl := Lib.hid hFl
    have Hr2 := Lib.hid hr2'
    have HQ : Hid (sk = skipF bw br P k ⟨pw, pr, pf, pi⟩ t1.fields) := by show _ = _; rw [Hsq.out, Ht1.out]; rfl
    have Hff2 : Hid (∀ f ∈ t1.fields, fieldOf (typeOf bw pw) f.id = some f) := by
     have : t1 = typeOf bw pw := Ht1.out
     rw [this]; exact Hff.out
    have hGV2 := below_via hG2 hB6 hG2.size
    clear hFl hr1'' hr2' k1' Hsq Hff
    go_wp2_with fail
    clear y12 y1l
    go_loopw [57] (fun c57 wt => ∃ j : Nat, c57 = .int .i64 j ∧ j ≤ t1.fields.length ∧ Hid (sk = skipF bw br P k ⟨pw, pr, pf, pi⟩ (t1.fields.drop j)) ∧ Below V2.heap.size V2 wt) (fun c57 _ => t1.fields.length - (intOf c57).toNat)
    case atStart => exact ⟨0, rfl, Nat.zero_le _, HQ, Below.here V2⟩
    case round =>
     clear HQ
     obtain ⟨j, rfl, hj, HQ, hK⟩ := hrel
     by_cases hjl : j < t1.fields.length
     ·--[FLD
      have hjl' : (j : Int) < (t1.fields.length : Int) := by omega
      have hFl := (RSl.fair RField.fair).below HFl.out hK
      obtain ⟨gf, of, es, rfl, hSf, hgf, -, hre, hcf⟩ := hFl.at_ hjl
      have hfm := Hff2.out _ (List.getElem_mem hjl)
      have hdr : t1.fields.drop j = t1.fields[j] :: t1.fields.drop (j + 1) := List.drop_eq_getElem_cons hjl
      obtain ⟨f, hf⟩ : ∃ f, f = t1.fields[j] := ⟨_, rfl⟩
      rw [← hf] at hre hfm hdr
      obtain rfl : es = fieldCells f := hre
      have Hst : Hid (sk = skipF bw br P k ⟨pw, pr, pf, pi⟩ (f :: t1.fields.drop (j + 1))) := by show _ = _; rw [HQ.out, hdr]
      obtain ⟨rg, hrg⟩ : ∃ rg, rg = fieldOf tz f.id := ⟨_, rfl⟩
      have hfo := Lib.hid (fun W (h : Below V2.heap.size V2 W) => fieldOf_any (Old w) _ tz f.id W (RType.fair.below Hr2.out h))
      rw [← hrg] at hfo
      have Hfz : Hid (fieldOf (typeOf br pr) f.id = rg) := by show _ = _; rw [hrg, Ht2.out]; rfl
      have Hfm := Lib.hid hfm
      obtain ⟨fi, fn, ft, fk, fr⟩ := f
      dsimp only at hfo Hfz Hfm
      have r0 : wr.cell? ⟨gf, of + j * 5, none⟩ = some (.int .i64 fi) := hcf.at_ 0 rfl
      have r1' : wr.cell? ⟨gf, of + j * 5 + 1, none⟩ = some (.string fn) := hcf.at_ 1 rfl
      have r2' : wr.cell? ⟨gf, of + j * 5 + 2, none⟩ = some (.string ft) := hcf.at_ 2 rfl
      have r3' : wr.cell? ⟨gf, of + j * 5 + 3, none⟩ = some (.int .i64 fk) := hcf.at_ 3 rfl
      have r4' : wr.cell? ⟨gf, of + j * 5 + 4, none⟩ = some (.int .i64 fr) := hcf.at_ 4 rfl
      have bF := Box.new wr 56 [.int .i64 fi, .string fn, .string ft, .int .i64 fk, .int .i64 fr]
      have hK3 := hK.alloc hK.size (.cells [.int .i64 fi, .string fn, .string ft, .int .i64 fk, .int .i64 fr].toArray 56)
      clear hFl hSf hcf hf hrg hK hfm hdr HQ
      go_upto_region 13 with fail
      clear r0 r1' r2' r3' r4' hgf
      generalize wr.heap.size = F at bF ⊢
      generalize (World.alloc wr _) = w3 at bF hK3 ⊢
      have k23 := k2.below hK3 k2.lt
      obtain ⟨c0, c1, c2, c3, c4⟩ := k23.five
      have cl := k23.lt
      have f0 : w3.cell? ⟨F, 0, none⟩ = some (.int .i64 fi) := bF.cell 0
      have fl := bF.lt
      go_wp2_with fail
      refine (hfo.out _ hK3).mono ?_
      rintro e w4 ⟨rfl, hb4⟩
      obtain ⟨rv, hrv⟩ : ∃ rv, rv = rg.getD .zero := ⟨_, rfl⟩
      rw [← hrv]
      have Hrv := Lib.hid hrv
      obtain ⟨gi, gn, gt, gk, gr⟩ := rv
      simp only [fieldCells]
      clear hrv
      have bG := Box.new w4 56 [.int .i64 gi, .string gn, .string gt, .int .i64 gk, .int .i64 gr]
      have bF4 := (bF.below hb4 bF.lt).alloc (.cells [.int .i64 gi, .string gn, .string gt, .int .i64 gk, .int .i64 gr].toArray 56)
      have hK4 := (below_via hK3 hb4 hK3.size).alloc (below_via hK3 hb4 hK3.size).size (.cells [.int .i64 gi, .string gn, .string gt, .int .i64 gk, .int .i64 gr].toArray 56)
      clear c0 c1 c2 c3 c4 cl f0 fl bF k23 hK3 hb4 hfo
      go_upto_region 14 with fail
      generalize w4.heap.size = G at bG ⊢
      generalize (World.alloc w4 _) = w5 at bG bF4 hK4 ⊢
      cases rg with
      | none =>
       have HQ2 : Hid (sk = skipF bw br P k ⟨pw, pr, pf, pi⟩ (t1.fields.drop (j + 1))) := by show _ = _; rw [Hst.out]; exact skip_none Hfz.out
       go_wp2_with fail
       go_roundw
       case rel => exact ⟨j + 1, by simp, by omega, HQ2, hK4⟩
       case measure => simp [intOf]; omega
      | some g =>
       have hg : g = ⟨gi, gn, gt, gk, gr⟩ := Hrv.out.symm
       subst hg
       have hG5 := below_via hGV2 hK4 hGV2.size
       have hwh := Lib.hid (whys_any (Old w) _ _ bw br fi fk fr gi gk gr fn ft gn gt w5 ((RSl.fair RType.fair).below H1.out hG5) ((RSl.fair RType.fair).below H2.out hG5))
       obtain ⟨ys, hys⟩ : ∃ ys, ys = whysF bw br ⟨fi, fn, ft, fk, fr⟩ ⟨gi, gn, gt, gk, gr⟩ := ⟨_, rfl⟩
       have Hys := Lib.hid hys.symm
       rw [← hys] at hwh
       have hB5 := below_via hB6 hK4 hB6.size
       have y1 := u1.below hB5 u1.lt
       have y2 := u2.below hB5 u2.lt
       have z1 := y1.cell 0
       have z2 := y2.cell 0
       have l1 := y1.lt
       have l2 := y2.lt
       obtain ⟨a0, a1, a2, a3, a4⟩ := bF4.five
       have al := bF4.lt
       obtain ⟨b0, b1, b2, b3, b4⟩ := bG.five
       have bl := bG.lt
       clear hys
       go_wp2_with fail
       refine hwh.out.mono ?_
       rintro e w6 ⟨vy, rfl, hry, hb6⟩
       obtain ⟨Ay, cy, rfl, -, -⟩ := hry.form
       have hK6 := below_via hK4 hb6 hK4.size
       have bT7 := bT6.below hK6 bT6.lt
       have bF6 := bF4.below hb6 bF4.lt
       have bG6 := bG.below hb6 bG.lt
       have hB7 := below_via hB6 hK6 hB6.size
       have hG7 := below_via hGV2 hK6 hGV2.size
       have y1 := u1.below hB7 u1.lt
       have y2 := u2.below hB7 u2.lt
       have y3 := u3.below hB7 u3.lt
       clear z1 z2 l1 l2 a0 a1 a2 a3 a4 al b0 b1 b2 b3 b4 bl bG bF4 hK4 hb6 hwh hG5 hB5
       cases ys with
       | nil =>
        have HQ2 : Hid (sk = skipF bw br P k ⟨pw, pr, pf, pi⟩ (t1.fields.drop (j + 1))) := by show _ = _; rw [Hst.out]; exact skip_empty Hfz.out Hys.out
        clear y1 y2 y3 bT7 bF6 bG6 hry
        go_wp2_with fail
        go_roundw
        case rel => exact ⟨j + 1, by simp, by omega, HQ2, hK6⟩
        case measure => simp [intOf]; omega
       | cons y ys =>
        have Hp4 : Hid (p = (wrapF bw P (k + 1) k (withF bw (typeOf bw pw) fi (brokenL bw br ⟨fi, fn, ft, fk, fr⟩ ⟨gi, gn, gt, gk, gr⟩ y)), 0)) := by
         show _ = _
         rw [Hp3.out, Hst.out, skip_some Hfz.out Hys.out]; rfl
        obtain ⟨gy, oy, rfl, hSy, hgy⟩ := hry.base (by simp)
        have hcy := hry.flat (enc := fun x => [.int .i64 x]) (k := 0) (by simp)
        have q0 : w6.cell? ⟨gy, oy, none⟩ = some (.int .i64 y) := by have := hcy.at_ 0 rfl; simpa using this
        have hyl : 0 < (y :: ys).length := by simp
        generalize hlen : (y :: ys).length = ny at hyl ⊢
        have hyl' : (0 : Int) < (ny : Int) := by omega
        have HS := Lib.hid (fun W (h : Below w6.heap.size w6 W) => show (fun W' => World.cell? W' ⟨w.heap.size, 0, none⟩ = some (.slice AW bw.length cw) ∧ World.cell? W' ⟨w.heap.size + 1, 0, none⟩ = some (.slice AR br.length cr) ∧ World.cell? W' ⟨T, 0, none⟩ = some (.string pw) ∧ (World.cell? W' ⟨F, 0, none⟩ = some (.int .i64 fi) ∧ World.cell? W' ⟨F, 1, none⟩ = some (.string fn) ∧ World.cell? W' ⟨F, 2, none⟩ = some (.string ft) ∧ World.cell? W' ⟨F, 3, none⟩ = some (.int .i64 fk) ∧ World.cell? W' ⟨F, 4, none⟩ = some (.int .i64 fr)) ∧ (World.cell? W' ⟨G, 0, none⟩ = some (.int .i64 gi) ∧ World.cell? W' ⟨G, 1, none⟩ = some (.string gn) ∧ World.cell? W' ⟨G, 2, none⟩ = some (.string gt) ∧ World.cell? W' ⟨G, 3, none⟩ = some (.int .i64 gk) ∧ World.cell? W' ⟨G, 4, none⟩ = some (.int .i64 gr)) ∧ World.cell? W' ⟨gy, oy, none⟩ = some (.int .i64 y)) W from ⟨(y1.below h y1.lt).cell 0, (y2.below h y2.lt).cell 0, (bT7.below h bT7.lt).cell 0, (bF6.below h bF6.lt).five, (bG6.below h bG6.lt).five, (World.cell?_of_block (h.block _ hgy)).trans q0⟩)
        have hs2 : w.heap.size + 1 + 1 < w6.heap.size := y3.lt
        have Hvp7 := Lib.hid ((RSl.fair RPair.fair).below Hvp.out hB7)
        clear hcy hry hSy hlen
        go_upto_region 17 with fail
        have hbd := below_drew (Below.here w6)
        have hS := HS.out _ hbd
        have hwd : w6.heap.size ≤ w6.drew.heap.size := hbd.size
        clear q0 y1 y2 bT7 bF6 bG6
        refine lateP_start (fun W' => World.cell? W' ⟨w.heap.size, 0, none⟩ = some (.slice AW bw.length cw) ∧ World.cell? W' ⟨w.heap.size + 1, 0, none⟩ = some (.slice AR br.length cr) ∧ World.cell? W' ⟨T, 0, none⟩ = some (.string pw) ∧ (World.cell? W' ⟨F, 0, none⟩ = some (.int .i64 fi) ∧ World.cell? W' ⟨F, 1, none⟩ = some (.string fn) ∧ World.cell? W' ⟨F, 2, none⟩ = some (.string ft) ∧ World.cell? W' ⟨F, 3, none⟩ = some (.int .i64 fk) ∧ World.cell? W' ⟨F, 4, none⟩ = some (.int .i64 fr)) ∧ (World.cell? W' ⟨G, 0, none⟩ = some (.int .i64 gi) ∧ World.cell? W' ⟨G, 1, none⟩ = some (.string gn) ∧ World.cell? W' ⟨G, 2, none⟩ = some (.string gt) ∧ World.cell? W' ⟨G, 3, none⟩ = some (.int .i64 gk) ∧ World.cell? W' ⟨G, 4, none⟩ = some (.int .i64 gr)) ∧ World.cell? W' ⟨gy, oy, none⟩ = some (.int .i64 y)) (fun i => decide (i < 14)) (by kernel_rfl) ?_
        generalize w6.drew = Wd at hS hbd hwd ⊢
        refine tkP 0 hS ?_
        try simp only [pu]
        refine ppP 1 ?_
        try simp only [pu]
        refine ppP 2 ?_
        try simp only [pu]
        refine tkP 3 hS ?_
        try simp only [pu]
        refine tkP 4 hS ?_
        try simp only [pu]
        refine ppP 5 ?_
        try simp only [pu]
        refine tkP 6 hS ?_
        try simp only [pu]
        refine tkP 7 hS ?_
        try simp only [pu]
        refine tkP 8 hS ?_
        try simp only [pu]
        refine ppP 9 ?_
        try simp only [pu]
        refine ppP 10 ?_
        try simp only [pu]
        refine tkP 11 hS ?_
        try simp only [pu]
        have hcb := hbr.out HZ.out.1 pw Hn.out fi fk fr gi gk gr fn ft gn gt Hfm.out y Wd (below_via hG7 hbd hG7.size)
        refine lateP_one (i := 12) rfl (by kernel_rfl) (fun K hK => ?_)
        go_simp
        refine hcb.mono ?_
        rintro e w7 ⟨cs, rfl, hrv, hb7⟩
        obtain ⟨nv, hnv⟩ : ∃ x, x = withF bw (typeOf bw pw) fi (brokenL bw br ⟨fi, fn, ft, fk, fr⟩ ⟨gi, gn, gt, gk, gr⟩ y) := ⟨_, rfl⟩
        rw [← hnv] at hrv
        have Hp5 : Hid (p = (wrapF bw P (k + 1) k nv, 0)) := by show _ = _; rw [Hp4.out, hnv]
        have hcw := hwr.out HZ.out.1 (New Wd) _ _ P Hpf.out.1 Hpf.out.2.1 k Hkl.out hp16 cs nv w7 (below_via (below_via hG7 hbd hG7.size) hb7 (below_via hG7 hbd hG7.size).size) ((RSl.fair RPair.fair).below ((RSl.fair RPair.fair).below Hvp7.out hbd) hb7) hrv
        obtain ⟨nk, nn, ns, ni, nl⟩ := nv
        obtain ⟨F1, f1, F2, f2, rfl, -, -⟩ := hrv.parts
        have hB8 := below_via hbd hb7 hbd.size
        replace hS := HS.out _ hB8
        have h78 : Wd.heap.size ≤ w7.heap.size := hb7.size
        clear hrv hnv hb7 hcb
        refine hK.out _ _ (fun _ _ => hS) ?_
        clear hK K
        try simp only [pu]
        refine lateP_one (i := 13) rfl (by kernel_rfl) (fun K hK => ?_)
        go_simp
        refine hcw.mono ?_
        rintro e w8 ⟨cs8, rfl, hrv8, hb8⟩
        obtain ⟨mv, hmv⟩ : ∃ x, x = wrapF bw P (k + 1) k (.mk nk nn ns ni nl) := ⟨_, rfl⟩
        rw [← hmv] at hrv8
        have Hp6 : Hid (p = (mv, 0)) := by show _ = _; rw [Hp5.out, hmv]
        obtain ⟨mk, mn, ms, mi, ml⟩ := mv
        obtain ⟨G1, g1, G2, g2, rfl, -, -⟩ := hrv8.parts
        have hB9 := below_via hB8 hb8 hB8.size
        replace hS := HS.out _ hB9
        have z3 := y3.below hB9 y3.lt
        have Hall := Lib.hid (witness_after (zs := [.int .i64 mk, .int .i64 mn, .string ms, .slice G1 mi.length g1, .slice G2 ml.length g2]) (below_via hG7 hB9 hG7.size) (Nat.lt_of_lt_of_le hs2 hwd) h78 z3 hrv8 rfl)
        clear hrv8 hmv hb8 hcw
        refine hK.out _ _ (fun _ _ => hS) ?_
        clear hK K
        try simp only [pu]
        obtain ⟨c0, c1, c2, c3, c4⟩ := z3.five
        have k0 := z3.frozen 0
        have k1 := z3.frozen 1
        have k2' := z3.frozen 2
        have k3 := z3.frozen 3
        have k4 := z3.frozen 4
        have lv := z3.lt
        clear hS HS z3 y3
        generalize hV : w.heap.size + 1 + 1 = R at c0 c1 c2 c3 c4 k0 k1 k2' k3 k4 lv ⊢
        refine lateP_one (i := 14) rfl (by kernel_rfl) (fun K hK => ?_)
        go_simp
        refine hK.out _ _ (fun h => absurd h (by decide)) ?_
        clear hK K
        try simp only [pu]
        change anyP _ _ _ _ _ _ _ _ _ (Go.Proofs.YtfidfakcbjoilaaDoor.setCells w8 R 0 [.int .i64 mk, .int .i64 mn, .string ms, .slice G1 mi.length g1, .slice G2 ml.length g2])
        subst hV
        clear c0 c1 c2 c3 c4 k0 k1 k2' k3 k4 lv
        generalize Go.Proofs.YtfidfakcbjoilaaDoor.setCells w8 (w.heap.size + 1 + 1) 0 _ = w9 at Hall ⊢
        refine lateP_one (i := 15) rfl (by kernel_rfl) (fun K hK => ?_)
        go_simp
        refine hK.out _ _ (fun h => absurd h (by decide)) ?_
        clear hK K
        try simp only [pu]
        refine lateP_done (by kernel_rfl) ?_ _
        go_wp2_with fail
        rw [Hp6.out]
        exact bodyPost_ret (Witness_results Hall.out.1 rfl rfl) rfl ⟨_, rfl, Hall.out.2.1, Hall.out.2.2⟩
     ·obtain rfl : j = t1.fields.length := by omega
      have Hs2 : Hid (sk = seekF bw br (k + 1) (P.drop (k + 1))) := by show _ = _; rw [HQ.out, List.drop_length]; rfl
      clear HQ
      go_wp2_with fail
      go_roundw
      case rel => exact ⟨k + 1, by simp, by omega, Hs2, below_via hB6 hK hB6.size⟩
      case measure => simp [intOf]; omega
   ·--[END
    obtain rfl : k = P.length := by omega
    have Hp2 : Hid (p = (.zero, 3)) := by
     show _ = _
     rw [Hp3.out, Hs.out, List.drop_length]; rfl
    have hw2 := below_via hG2 hB hG2.size
    have y3 := u3.below hB u3.lt
    clear Hs hk hlt hp16 u1 u2
    obtain ⟨r0, r1, r2, r3, r4⟩ := y3.five
    have g0 := y3.frozen 0
    have g1 := y3.frozen 1
    have g2 := y3.frozen 2
    have g3 := y3.frozen 3
    have g4 := y3.frozen 4
    have hlr := y3.lt
    go_wp2_with fail
    change bodyPost _ _ _ _ _ (setCells wr (w.heap.size + 1 + 1) 0 [.int .i64 0, .int .i64 0, .string ⟨#[]⟩, .slice none 0 0, .slice none 0 0])
    have hb5 := y3.setCells [.int .i64 0, .int .i64 0, .string ⟨#[]⟩, .slice none 0 0, .slice none 0 0] rfl
    have hw5 := below_setCells (g := (w.heap.size + 1 + 1)) (by go_light; omega) [.int .i64 0, .int .i64 0, .string ⟨#[]⟩, .slice none 0 0, .slice none 0 0] 0 _ hw2
    generalize setCells wr (w.heap.size + 1 + 1) 0 _ = W5 at hb5 hw5 ⊢
    rw [Hp2.out]
    exact bodyPost_ret (Witness_results hb5 rfl rfl) rfl ⟨_, rfl, RVal.zero, hw5⟩
 ·have Hp2 : Hid (p = (.zero, b)) := by show _ = _; rw [Hp.out, if_pos h0]
  have hcb : (b != 0) = true := by simpa using h0
  clear Hp h0
  obtain ⟨r0, r1, r2, r3, r4⟩ := y3.five
  have g0 := y3.frozen 0
  have g1 := y3.frozen 1
  have g2 := y3.frozen 2
  have g3 := y3.frozen 3
  have g4 := y3.frozen 4
  have hlr := y3.lt
  go_wp2_with fail
  change bodyPost _ _ _ _ _ (setCells w1 (w.heap.size + 1 + 1) 0 [.int .i64 0, .int .i64 0, .string ⟨#[]⟩, .slice none 0 0, .slice none 0 0])
  have hb5 := y3.setCells [.int .i64 0, .int .i64 0, .string ⟨#[]⟩, .slice none 0 0, .slice none 0 0] rfl
  have hw5 := below_setCells (g := (w.heap.size + 1 + 1)) (by go_light; omega) [.int .i64 0, .int .i64 0, .string ⟨#[]⟩, .slice none 0 0, .slice none 0 0] 0 _ hG1
  generalize setCells w1 (w.heap.size + 1 + 1) 0 _ = W5 at hb5 hw5 ⊢
  rw [Hp2.out]
  exact bodyPost_ret (Witness_results hb5 rfl rfl) rfl ⟨_, rfl, RVal.zero, hw5⟩
end Go.Proofs.YtfidfakcbjoilaaDoor
