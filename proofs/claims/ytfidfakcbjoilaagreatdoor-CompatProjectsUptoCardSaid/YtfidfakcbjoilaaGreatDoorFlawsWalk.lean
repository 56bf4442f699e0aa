/- The walk of compat.Flaws. -/
import Derived.Test.YtfidfakcbjoilaaGreatDoorCompactF
import Derived.Test.YtfidfakcbjoilaaGreatDoorBase
set_option linter.all false
set_option maxRecDepth 100000
set_option maxHeartbeats 8000000
namespace Go.Proofs.YtfidfakcbjoilaaGreatDoor
open Go.RowKit
theorem whys_len (w r : BookD) (f g : FieldD) : (whysF w r f g).length ≤ 2 := by
 unfold whysF
 rw [sortS_len, List.length_append]
 have h1 := whyA_le w r f g
 have h2 : (whyB f g).length ≤ 1 := by unfold whyB; split <;> simp
 omega
theorem flawsOf_len (w r : BookD) (p : PairD) (f : FieldD) : (flawsOf w r p f).length ≤ 2 := by
 unfold flawsOf
 split
 ·simp
 ·rw [List.length_map]; exact whys_len _ _ _ _
theorem flat_len {α β : Type} {F : α → List β} {n : Nat} : ∀ {l : List α}, (∀ x ∈ l, (F x).length ≤ n) → (l.flatMap F).length ≤ l.length * n
 | [], _ => by simp
 | x :: l, h => by
  rw [List.flatMap_cons, List.length_append, List.length_cons, Nat.add_mul]
  have h1 := h x (by simp)
  have h2 := flat_len (l := l) (fun y hy => h y (by simp [hy]))
  omega
theorem type_fields {b : BookD} (h : goodF b = 0) {t : TypeD} (ht : t ∈ b) : t.fields.length ≤ 5 := by
 cases he : t.enum with
 | true => have := (good_enum h ht he).2.2.2.1; omega
 | false => exact (good_msg h ht he).1
theorem flawsL_len {w r : BookD} {name : ByteArray} (hw : goodF w = 0) (hr : goodF r = 0) (h1 : noneB w name = false) (h2 : noneB r name = false) : (flawsL w r name).length ≤ 160 := by
 have hok : PairsOk w r (pairsF w r name) := pairsGo_ok hw hr _ _ _ (pairs_start h1 h2)
 have h16 := sixteen hw hr hok
 unfold flawsL
 have := flat_len (l := pairsF w r name) (n := 10) (F := fun p => (typeOf w p.w).fields.flatMap (flawsOf w r p)) (fun p hp => by
  have h5 := type_fields hw (typeOf_mem (hok.2 p hp).1)
  have := flat_len (l := (typeOf w p.w).fields) (n := 2) (F := flawsOf w r p) (fun f _ => flawsOf_len w r p f)
  omega)
 omega
def FlawsPost (w : World) (r : List FlawD × Int) (e : Ending) (w' : World) : Prop := ∃ v, e = .returned (.tuple #[v, .int .i64 r.2]) ∧ RSl 3 32 RFlaw (New w) w' [v] r.1 ∧ Below w.heap.size w w'
theorem both_zero {w r : BookD} {name : ByteArray} (h : bothF w r name = 0) : goodF w = 0 ∧ goodF r = 0 ∧ noneB w name = false ∧ noneB r name = false := by
 unfold bothF at h
 split at h
 ·cases h
 ·rename_i h1
  split at h
  ·cases h
  ·rename_i h2
   refine ⟨Decidable.byContradiction fun e => h1 (.inl e), Decidable.byContradiction fun e => h1 (.inr e), ?_, ?_⟩
   ·cases hn : noneB w name with
    | false => rfl
    | true => exact absurd (.inl hn) h2
   ·cases hn : noneB r name with
    | false => rfl
    | true => exact absurd (.inr hn) h2
def flawsP (bw br : BookD) (p : PairD) : List FlawD := (typeOf bw p.w).fields.flatMap (flawsOf bw br p)
theorem rsl_push {α : Type} {sz by_ : Nat} {R : Rel α} (hR : Fair R) {w w7 : World} {v v7 x : Value} {ys : List α} (h : RSl sz by_ R (fun y => v.ownBlock ≠ some y) w [x] ys) (o : Obj) (hg : (w.alloc o).grownBy w7 v.ownBlock) (hv : v7.ownBlock = v.ownBlock ∨ v7.ownBlock = some (w.heap.size + 1)) :
  RSl sz by_ R (fun y => v7.ownBlock ≠ some y) w7 [x] ys := by
 have h1 : RSl sz by_ R (fun y => v.ownBlock ≠ some y ∧ v7.ownBlock ≠ some y) w [x] ys := (RSl.fair hR).mono h (fun k hk hlt => ⟨hk, fun e => by
  rcases hv with h | h
  ·rw [h] at e; exact hk e
  ·rw [h] at e
   injection e with e
   subst e
   omega⟩)
 have h2 : RSl sz by_ R (fun y => v.ownBlock ≠ some y ∧ v7.ownBlock ≠ some y) w7 [x] ys := (RSl.fair hR).keep h1 ((Keep.alloc _ w o).trans (Keep.of_grown hg (fun k e hk => hk.1 e)))
 exact (RSl.fair hR).mono h2 (fun k hk _ => hk.2)
theorem sl_flaws : SlInfo Tryz.prog 26 60 3 32 := SlInfo.mk (z := .agg #[.string .empty, .int .i64 0, .int .i64 0]) Tryz.underlying26 (by decide) (by decide) (by kernel_rfl) rfl
theorem flaws_any (S : Nat → Prop) (vw vr : Value) (bw br : BookD) (name : ByteArray) (w : World) (hb1 : RSl 5 96 RType S w [vw] bw) (hb2 : RSl 5 96 RType S w [vr] br) (hW : Words w) (o1 : BookOk bw) (o2 : BookOk br) :
  Calls Tryz.prog 6 #[.agg #[vw], .agg #[vr], .string name] w (FlawsPost w (flawsF bw br name)) := by
 obtain ⟨AW, cw, rfl, -, -⟩ := hb1.form
 obtain ⟨AR, cr, rfl, -, -⟩ := hb2.form
 obtain ⟨x1, x2, x3⟩ := boxes2 w [.slice AW bw.length cw] [.slice AR br.length cr] 24 24
 have H1 := Lib.hid ((RSl.fair RType.fair).old hb1)
 have H2 := Lib.hid ((RSl.fair RType.fair).old hb2)
 have hbo := Lib.hid (fun W (h : Below w.heap.size w W) => both_any S _ _ bw br name W ((RSl.fair RType.fair).below hb1 h) ((RSl.fair RType.fair).below hb2 h) (hW.below h) o1 o2)
 obtain ⟨p, hp⟩ : ∃ p, p = flawsF bw br name := ⟨_, rfl⟩
 obtain ⟨b, hb⟩ : ∃ b, b = bothF bw br name := ⟨_, rfl⟩
 have Hp : Hid (p = if b ≠ 0 then ([], b) else (onceF (sortS ltFlaw (flawsL bw br name)), 0)) := by show _ = _; rw [hp, hb]; rfl
 rw [← hp]
 rw [← hb] at hbo
 have Hb := Lib.hid hb
 have z1 := x1.cell 0
 have z2 := x2.cell 0
 have l1 := x1.lt
 have l2 := x2.lt
 clear hb1 hb2 hp hb
 go_enter Tryz.func6, Tryz.ntmps6
 go_wp2_with fail
 refine (hbo.out _ x3).mono ?_
 rintro e w1 ⟨rfl, hb1⟩
 have y1 := x1.below hb1 x1.lt
 have y2 := x2.below hb1 x2.lt
 have hG1 := below_via x3 hb1 x3.size
 clear z1 z2 l1 l2 x1 x2 x3 hb1 hbo
 by_cases h0 : b = 0
 ·subst h0
  have hz := both_zero Hb.out.symm
  have HZ := Lib.hid hz
  have Hp2 : Hid (p = (onceF (sortS ltFlaw (flawsL bw br name)), 0)) := Hp.out
  clear hz Hp
  have z1 := y1.cell 0
  have z2 := y2.cell 0
  have l1 := y1.lt
  have l2 := y2.lt
  have hpa := Lib.hid (pairs_any (Old w) _ _ bw br name w1 ((RSl.fair RType.fair).below H1.out hG1) ((RSl.fair RType.fair).below H2.out hG1) HZ.out.1 HZ.out.2.1 HZ.out.2.2.1 HZ.out.2.2.2)
  go_wp2_with fail
  refine hpa.out.mono ?_
  rintro e V ⟨vp, rfl, hvp, hb2⟩
  have u1 := y1.below hb2 y1.lt
  have u2 := y2.below hb2 y2.lt
  have hG2 := below_via hG1 hb2 hG1.size
  obtain ⟨AP, cp, rfl, hpc, hpb⟩ := hvp.form
  obtain ⟨P, hP⟩ : ∃ P, P = pairsF bw br name := ⟨_, rfl⟩
  rw [← hP] at hvp
  rw [← hP]
  have HP := Lib.hid hP
  have Hvp := Lib.hid hvp
  have hp16 : P.length ≤ 16 := by rw [hP]; exact sixteen HZ.out.1 HZ.out.2.1 (pairsGo_ok HZ.out.1 HZ.out.2.1 _ _ _ (pairs_start HZ.out.2.2.1 HZ.out.2.2.2))
  have HL := Lib.hid (flawsL_len HZ.out.1 HZ.out.2.1 HZ.out.2.2.1 HZ.out.2.2.2)
  clear z1 z2 l1 l2 y1 y2 hG1 hb2 hpa hpc hpb hvp hP
  go_wp2_with fail
  go_loopw [9, 34] (fun c9 c34 wr => ∃ k : Nat, c34 = .int .i64 k ∧ k ≤ P.length ∧ Own V.heap.size 60 3 RFlaw NoT wr c9 ((P.take k).flatMap (flawsP bw br)) ∧ Below V.heap.size V wr) (fun _ c34 _ => P.length - (intOf c34).toNat)
  case atStart => exact ⟨0, rfl, Nat.zero_le _, Own.nil_ _ _ _ _ _ _, Below.here V⟩
  case round =>
   obtain ⟨k, rfl, hk, hO, hB⟩ := hrel
   by_cases hlt : k < P.length
   ·--[RND
    have hlt' : (k : Int) < (P.length : Int) := by omega
    have hvp := (RSl.fair RPair.fair).below Hvp.out hB
    obtain ⟨gp, op, es, rfl, hSp, hgp, -, hre, hcp⟩ := hvp.at_ hlt
    obtain ⟨q, hq⟩ : ∃ q, q = P[k] := ⟨_, rfl⟩
    rw [← hq] at hre
    obtain rfl : es = pairCells q := hre
    have Hk : Hid ((P.take (k + 1)).flatMap (flawsP bw br) = (P.take k).flatMap (flawsP bw br) ++ flawsP bw br q) := by show _ = _; rw [List.take_succ_eq_append_getElem hlt, List.flatMap_append, ← hq]; simp
    have hacc : ((P.take k).flatMap (flawsP bw br)).length + (flawsP bw br q).length ≤ 160 := by
     have h1 := HL.out
     have h2 : (flawsL bw br name) = P.flatMap (flawsP bw br) := by rw [HP.out]; rfl
     rw [h2, ← List.take_append_drop (k + 1) P, List.flatMap_append, List.length_append, Hk.out, List.length_append] at h1
     omega
    have Hq : Hid (flawsP bw br q = (typeOf bw q.w).fields.flatMap (flawsOf bw br q)) := rfl
    obtain ⟨acc, hac⟩ : ∃ acc, acc = (P.take k).flatMap (flawsP bw br) := ⟨_, rfl⟩
    rw [← hac] at hO hacc Hk
    have Hacc := Lib.hid hacc
    have f1 := Lib.hid (fun W (h : Below w.heap.size w W) => find_any (Old w) _ bw q.w W ((RSl.fair RType.fair).below H1.out h))
    have f2 := Lib.hid (fun W (h : Below w.heap.size w W) => find_any (Old w) _ br q.r W ((RSl.fair RType.fair).below H2.out h))
    obtain ⟨pw, pr, pf, pi⟩ := q
    have Hfo := Lib.hid (fun f => (rfl : flawsOf bw br ⟨pw, pr, pf, pi⟩ f = flawsOf bw br ⟨pw, pr, pf, pi⟩ f))
    have q0 : wr.cell? ⟨gp, op + k * 4, none⟩ = some (.string pw) := hcp.at_ 0 rfl
    have q1 : wr.cell? ⟨gp, op + k * 4 + 1, none⟩ = some (.string pr) := hcp.at_ 1 rfl
    have q2 : wr.cell? ⟨gp, op + k * 4 + 2, none⟩ = some (.int .i64 pf) := hcp.at_ 2 rfl
    have q3 : wr.cell? ⟨gp, op + k * 4 + 3, none⟩ = some (.int .i64 pi) := hcp.at_ 3 rfl
    have bT := Box.new wr 51 [.string pw, .string pr, .int .i64 pf, .int .i64 pi]
    have hO3 := hO.alloc RFlaw.fair (.cells [.string pw, .string pr, .int .i64 pf, .int .i64 pi].toArray 51)
    have hB3 := hB.alloc hB.size (.cells [.string pw, .string pr, .int .i64 pf, .int .i64 pi].toArray 51)
    clear hvp hSp hcp hq hac hO hacc
    go_upto_region 8 with fail
    clear q0 q1 q2 q3 hgp
    generalize wr.heap.size = T at bT ⊢
    generalize (World.alloc wr _) = w3 at bT hO3 hB3 ⊢
    have y1 := u1.below hB3 u1.lt
    have y2 := u2.below hB3 u2.lt
    have hG3 := below_via hG2 hB3 hG2.size
    have z1 := y1.cell 0
    have z2 := y2.cell 0
    have b0 : w3.cell? ⟨T, 0, none⟩ = some (.string pw) := bT.cell 0
    have l1 := y1.lt
    have l2 := y2.lt
    have lT := bT.lt
    clear hB
    go_wp2_with fail
    refine (f1.out _ hG3).mono ?_
    rintro e w4 ⟨cs1, rfl, hr1, hb4⟩
    obtain ⟨t1, ht1⟩ : ∃ t, t = (findT bw pw).getD .zero := ⟨_, rfl⟩
    have Ht1 := Lib.hid ht1
    rw [← ht1] at hr1
    obtain ⟨P1, p1, P2, p2, P3, p3, rfl, -, -, -⟩ := hr1.parts
    have bT4 := (bT.below hb4 bT.lt).alloc (.cells [.string t1.name, .bool t1.enum, .slice P1 t1.fields.length p1, .slice P2 t1.gone.length p2, .slice P3 t1.items.length p3].toArray 46)
    have hO4 := (hO3.below RFlaw.fair hb4).alloc RFlaw.fair (.cells [.string t1.name, .bool t1.enum, .slice P1 t1.fields.length p1, .slice P2 t1.gone.length p2, .slice P3 t1.items.length p3].toArray 46)
    have hB4 := (below_via hB3 hb4 hB3.size).alloc (below_via hB3 hb4 hB3.size).size (.cells [.string t1.name, .bool t1.enum, .slice P1 t1.fields.length p1, .slice P2 t1.gone.length p2, .slice P3 t1.items.length p3].toArray 46)
    have k1 := Box.new w4 46 [.string t1.name, .bool t1.enum, .slice P1 t1.fields.length p1, .slice P2 t1.gone.length p2, .slice P3 t1.items.length p3]
    have hr1' := RType.fair.below (RType.fair.below hr1 hb4) ((Below.here w4).alloc (Nat.le_refl _) (.cells [.string t1.name, .bool t1.enum, .slice P1 t1.fields.length p1, .slice P2 t1.gone.length p2, .slice P3 t1.items.length p3].toArray 46))
    clear z1 z2 b0 l1 l2 lT y1 y2 hG3 bT hO3 hB3 hr1 hb4 ht1
    go_upto_region 9 with fail
    generalize w4.heap.size = Y1 at k1 ⊢
    generalize (World.alloc w4 _) = w5 at bT4 hO4 hB4 k1 hr1' ⊢
    have y1 := u1.below hB4 u1.lt
    have y2 := u2.below hB4 u2.lt
    have hG5 := below_via hG2 hB4 hG2.size
    have z2 := y2.cell 0
    have b1 : w5.cell? ⟨T, 1, none⟩ = some (.string pr) := bT4.cell 1
    have l2 := y2.lt
    have lT := bT4.lt
    go_wp2_with fail
    refine (f2.out _ hG5).mono ?_
    rintro e w6 ⟨cs2, rfl, hr2, hb6⟩
    obtain ⟨tz, ht2⟩ : ∃ t, t = (findT br pr).getD .zero := ⟨_, rfl⟩
    have Ht2 := Lib.hid ht2
    rw [← ht2] at hr2
    obtain ⟨R1, r1, R2, r2, R3, r3, rfl, -, -, -⟩ := hr2.parts
    have bT6 := (bT4.below hb6 bT4.lt).alloc (.cells [.string tz.name, .bool tz.enum, .slice R1 tz.fields.length r1, .slice R2 tz.gone.length r2, .slice R3 tz.items.length r3].toArray 46)
    have hO6 := (hO4.below RFlaw.fair hb6).alloc RFlaw.fair (.cells [.string tz.name, .bool tz.enum, .slice R1 tz.fields.length r1, .slice R2 tz.gone.length r2, .slice R3 tz.items.length r3].toArray 46)
    have hB6 := (below_via hB4 hb6 hB4.size).alloc (below_via hB4 hb6 hB4.size).size (.cells [.string tz.name, .bool tz.enum, .slice R1 tz.fields.length r1, .slice R2 tz.gone.length r2, .slice R3 tz.items.length r3].toArray 46)
    have k1' := (k1.below hb6 k1.lt).alloc (.cells [.string tz.name, .bool tz.enum, .slice R1 tz.fields.length r1, .slice R2 tz.gone.length r2, .slice R3 tz.items.length r3].toArray 46)
    have k2 := Box.new w6 46 [.string tz.name, .bool tz.enum, .slice R1 tz.fields.length r1, .slice R2 tz.gone.length r2, .slice R3 tz.items.length r3]
    have hr1'' := RType.fair.below (RType.fair.below hr1' hb6) ((Below.here w6).alloc (Nat.le_refl _) (.cells [.string tz.name, .bool tz.enum, .slice R1 tz.fields.length r1, .slice R2 tz.gone.length r2, .slice R3 tz.items.length r3].toArray 46))
    have hr2' := RType.fair.below (RType.fair.below hr2 hb6) ((Below.here w6).alloc (Nat.le_refl _) (.cells [.string tz.name, .bool tz.enum, .slice R1 tz.fields.length r1, .slice R2 tz.gone.length r2, .slice R3 tz.items.length r3].toArray 46))
    clear z2 b1 l2 lT y1 y2 hG5 bT4 hO4 hB4 k1 hr1' hr2 hb6 ht2 f1 f2
    go_upto_region 10 with fail
    generalize w6.heap.size = Y2 at k2 ⊢
    generalize (World.alloc w6 _) = V2 at bT6 hO6 hB6 k1' k2 hr1'' hr2' ⊢
    have y12 : V2.cell? ⟨Y1, 2, none⟩ = some (.slice P1 t1.fields.length p1) := k1'.cell 2
    have y1l := k1'.lt
    have hFl := (RType.rows_ hr1'').1
    obtain ⟨_, _, -, -, hfb⟩ := hFl.form
    have HFl := Lib.hid hFl
    have Hr2 := Lib.hid hr2'
    have HQ : Hid (flawsP bw br ⟨pw, pr, pf, pi⟩ = t1.fields.flatMap (flawsOf bw br ⟨pw, pr, pf, pi⟩)) := by show _ = _; rw [Hq.out, Ht1.out]; rfl
    have hGV2 := below_via hG2 hB6 hG2.size
    clear hFl hr1'' hr2' k1' Hq
    go_wp2_with fail
    clear y12 y1l
    go_loopw [9, 55] (fun c9 c55 wt => ∃ j : Nat, c55 = .int .i64 j ∧ j ≤ t1.fields.length ∧ Own V.heap.size 60 3 RFlaw NoT wt c9 (acc ++ (t1.fields.take j).flatMap (flawsOf bw br ⟨pw, pr, pf, pi⟩)) ∧ Box wt T 51 [.string pw, .string pr, .int .i64 pf, .int .i64 pi] ∧ Box wt Y2 46 [.string tz.name, .bool tz.enum, .slice R1 tz.fields.length r1, .slice R2 tz.gone.length r2, .slice R3 tz.items.length r3] ∧ Below V.heap.size V wt ∧ Keep (Old w) V2 wt) (fun _ c55 _ => t1.fields.length - (intOf c55).toNat)
    case atStart => exact ⟨0, rfl, Nat.zero_le _, by simpa using hO6, bT6, k2, hB6, Keep.refl _ _⟩
    case round =>
     clear hO6 bT6 k2 hB6
     obtain ⟨j, rfl, hj, hO, bT, k2, hB, hK⟩ := hrel
     by_cases hjl : j < t1.fields.length
     ·--[FLD
      have hjl' : (j : Int) < (t1.fields.length : Int) := by omega
      have hFl := (RSl.fair RField.fair).keep HFl.out hK
      obtain ⟨gf, of, es, rfl, hSf, hgf, -, hre, hcf⟩ := hFl.at_ hjl
      obtain ⟨f, hf⟩ : ∃ f, f = t1.fields[j] := ⟨_, rfl⟩
      rw [← hf] at hre
      obtain rfl : es = fieldCells f := hre
      have Hst : Hid (acc ++ (t1.fields.take (j + 1)).flatMap (flawsOf bw br ⟨pw, pr, pf, pi⟩) = acc ++ (t1.fields.take j).flatMap (flawsOf bw br ⟨pw, pr, pf, pi⟩) ++ flawsOf bw br ⟨pw, pr, pf, pi⟩ f) := by
       show _ = _
       rw [List.take_succ_eq_append_getElem hjl, List.flatMap_append, ← hf]; simp
      have hacc2 : (acc ++ (t1.fields.take j).flatMap (flawsOf bw br ⟨pw, pr, pf, pi⟩)).length + (flawsOf bw br ⟨pw, pr, pf, pi⟩ f).length ≤ 160 := by
       have h1 := Hacc.out
       rw [HQ.out, ← List.take_append_drop (j + 1) t1.fields, List.flatMap_append] at h1
       have h2 := congrArg List.length Hst.out
       simp only [List.length_append] at h1 h2 ⊢
       omega
      have Hacc2 := Lib.hid hacc2
      obtain ⟨acc2, hac2⟩ : ∃ a, a = acc ++ (t1.fields.take j).flatMap (flawsOf bw br ⟨pw, pr, pf, pi⟩) := ⟨_, rfl⟩
      rw [← hac2] at hO Hst Hacc2
      clear hacc2 hac2
      obtain ⟨rg, hrg⟩ : ∃ rg, rg = fieldOf tz f.id := ⟨_, rfl⟩
      have hfo := Lib.hid (fun W (h : Keep (Old w) V2 W) => fieldOf_any (Old w) _ tz f.id W (RType.fair.keep Hr2.out h))
      rw [← hrg] at hfo
      have Hfz : Hid (fieldOf (typeOf br pr) f.id = rg) := by show _ = _; rw [hrg, Ht2.out]; rfl
      obtain ⟨fi, fn, ft, fk, fr⟩ := f
      dsimp only at hfo Hfz
      have r0 : wr.cell? ⟨gf, of + j * 5, none⟩ = some (.int .i64 fi) := hcf.at_ 0 rfl
      have r1' : wr.cell? ⟨gf, of + j * 5 + 1, none⟩ = some (.string fn) := hcf.at_ 1 rfl
      have r2' : wr.cell? ⟨gf, of + j * 5 + 2, none⟩ = some (.string ft) := hcf.at_ 2 rfl
      have r3' : wr.cell? ⟨gf, of + j * 5 + 3, none⟩ = some (.int .i64 fk) := hcf.at_ 3 rfl
      have r4' : wr.cell? ⟨gf, of + j * 5 + 4, none⟩ = some (.int .i64 fr) := hcf.at_ 4 rfl
      have bF := Box.new wr 55 [.int .i64 fi, .string fn, .string ft, .int .i64 fk, .int .i64 fr]
      have bT3 := bT.alloc (.cells [.int .i64 fi, .string fn, .string ft, .int .i64 fk, .int .i64 fr].toArray 55)
      have k23 := k2.alloc (.cells [.int .i64 fi, .string fn, .string ft, .int .i64 fk, .int .i64 fr].toArray 55)
      have hO3 := hO.alloc RFlaw.fair (.cells [.int .i64 fi, .string fn, .string ft, .int .i64 fk, .int .i64 fr].toArray 55)
      have hB3 := hB.alloc hB.size (.cells [.int .i64 fi, .string fn, .string ft, .int .i64 fk, .int .i64 fr].toArray 55)
      have hK3 := hK.trans (Keep.alloc (Old w) wr (.cells [.int .i64 fi, .string fn, .string ft, .int .i64 fk, .int .i64 fr].toArray 55))
      clear hFl hSf hcf hf hrg bT k2 hO hB hK
      go_upto_region 13 with fail
      clear r0 r1' r2' r3' r4' hgf
      generalize wr.heap.size = F at bF ⊢
      generalize (World.alloc wr _) = w3 at bF bT3 k23 hO3 hB3 hK3 ⊢
      obtain ⟨c0, c1, c2, c3, c4⟩ := k23.five
      have cl := k23.lt
      have f0 : w3.cell? ⟨F, 0, none⟩ = some (.int .i64 fi) := bF.cell 0
      have fl := bF.lt
      go_wp2_with fail
      refine (hfo.out _ hK3).mono ?_
      rintro e w4 ⟨rfl, hb4⟩
      obtain ⟨rv, hrv⟩ : ∃ rv, rv = rg.getD .zero := ⟨_, rfl⟩
      rw [← hrv]
      have Hrv := Lib.hid hrv
      obtain ⟨gi, gn, gt, gk, gr⟩ := rv
      simp only [fieldCells]
      clear hrv
      have bG := Box.new w4 55 [.int .i64 gi, .string gn, .string gt, .int .i64 gk, .int .i64 gr]
      have bF4 := (bF.below hb4 bF.lt).alloc (.cells [.int .i64 gi, .string gn, .string gt, .int .i64 gk, .int .i64 gr].toArray 55)
      have bT4 := (bT3.below hb4 bT3.lt).alloc (.cells [.int .i64 gi, .string gn, .string gt, .int .i64 gk, .int .i64 gr].toArray 55)
      have k24 := (k23.below hb4 k23.lt).alloc (.cells [.int .i64 gi, .string gn, .string gt, .int .i64 gk, .int .i64 gr].toArray 55)
      have hO4 := (hO3.below RFlaw.fair hb4).alloc RFlaw.fair (.cells [.int .i64 gi, .string gn, .string gt, .int .i64 gk, .int .i64 gr].toArray 55)
      have hB4 := (below_via hB3 hb4 hB3.size).alloc (below_via hB3 hb4 hB3.size).size (.cells [.int .i64 gi, .string gn, .string gt, .int .i64 gk, .int .i64 gr].toArray 55)
      have hK4 := (hK3.trans (Keep.of_below hb4)).trans (Keep.alloc (Old w) w4 (.cells [.int .i64 gi, .string gn, .string gt, .int .i64 gk, .int .i64 gr].toArray 55))
      clear c0 c1 c2 c3 c4 cl f0 fl bF bT3 k23 hO3 hB3 hK3 hb4 hfo
      go_upto_region 14 with fail
      generalize w4.heap.size = G at bG ⊢
      generalize (World.alloc w4 _) = w5 at bG bF4 bT4 k24 hO4 hB4 hK4 ⊢
      cases rg with
      | none =>
       have hz : flawsOf bw br ⟨pw, pr, pf, pi⟩ ⟨fi, fn, ft, fk, fr⟩ = [] := by unfold flawsOf; rw [Hfz.out]
       have hO5 := hO4
       rw [show acc2 = acc2 ++ flawsOf bw br ⟨pw, pr, pf, pi⟩ ⟨fi, fn, ft, fk, fr⟩ by rw [hz, List.append_nil], ← Hst.out] at hO5
       clear hO4 hz
       go_wp2_with fail
       go_roundw
       case rel => exact ⟨j + 1, by simp, by omega, hO5, bT4, k24, hB4, hK4⟩
       case measure => simp [intOf]; omega
      | some g =>
       have hg : g = ⟨gi, gn, gt, gk, gr⟩ := Hrv.out.symm
       subst hg
       have hwh := Lib.hid (whys_any (Old w) _ _ bw br fi fk fr gi gk gr fn ft gn gt w5 ((RSl.fair RType.fair).below H1.out (below_via hG2 hB4 hG2.size)) ((RSl.fair RType.fair).below H2.out (below_via hG2 hB4 hG2.size)))
       obtain ⟨ys, hys⟩ : ∃ ys, ys = whysF bw br ⟨fi, fn, ft, fk, fr⟩ ⟨gi, gn, gt, gk, gr⟩ := ⟨_, rfl⟩
       have Hz : Hid (flawsOf bw br ⟨pw, pr, pf, pi⟩ ⟨fi, fn, ft, fk, fr⟩ = ys.map fun y => ⟨pw, fi, y⟩) := by show _ = _; unfold flawsOf; rw [Hfz.out, hys]
       have hyl : ys.length ≤ 2 := by rw [hys]; exact whys_len _ _ _ _
       rw [← hys] at hwh
       have y1 := u1.below hB4 u1.lt
       have y2 := u2.below hB4 u2.lt
       have z1 := y1.cell 0
       have z2 := y2.cell 0
       have l1 := y1.lt
       have l2 := y2.lt
       obtain ⟨a0, a1, a2, a3, a4⟩ := bF4.five
       have al := bF4.lt
       obtain ⟨b0, b1, b2, b3, b4⟩ := bG.five
       have bl := bG.lt
       clear hys
       go_wp2_with fail
       refine hwh.out.mono ?_
       rintro e w6 ⟨vy, rfl, hry, hb6⟩
       obtain ⟨Ay, cy, rfl, -, -⟩ := hry.form
       have bT6 := bT4.below hb6 bT4.lt
       have bF6 := bF4.below hb6 bF4.lt
       have k26 := k24.below hb6 k24.lt
       have hO6 := hO4.below RFlaw.fair hb6
       have hB6 := below_via hB4 hb6 hB4.size
       have hK6 := hK4.trans (Keep.of_below hb6)
       clear z1 z2 l1 l2 y1 y2 a0 a1 a2 a3 a4 al b0 b1 b2 b3 b4 bl bG bF4 bT4 k24 hB4 hK4 hb6 hwh
       go_wp2_with fail
       go_loopw [9, 74] (fun c9 c74 wt => ∃ i : Nat, c74 = .int .i64 i ∧ i ≤ ys.length ∧ Own V.heap.size 60 3 RFlaw NoT wt c9 (acc2 ++ (ys.take i).map (fun y => ⟨pw, fi, y⟩)) ∧ Box wt T 51 [.string pw, .string pr, .int .i64 pf, .int .i64 pi] ∧ Box wt F 55 [.int .i64 fi, .string fn, .string ft, .int .i64 fk, .int .i64 fr] ∧ Box wt Y2 46 [.string tz.name, .bool tz.enum, .slice R1 tz.fields.length r1, .slice R2 tz.gone.length r2, .slice R3 tz.items.length r3] ∧ RSl 1 8 RInt (fun y => c9.ownBlock ≠ some y) wt [.slice Ay ys.length cy] ys ∧ Below V.heap.size V wt ∧ Keep (Old w) V2 wt) (fun _ c74 _ => ys.length - (intOf c74).toNat)
       case atStart => exact ⟨0, rfl, Nat.zero_le _, by simpa using hO6, bT6, bF6, k26, (RSl.fair RInt.fair).mono hry (fun k hk _ e => absurd (hO4.lt e).2 (Nat.not_lt.2 hk)), hB6, hK6⟩
       case round =>
        clear hO6 bT6 bF6 k26 hB6 hK6 hO4 hry
        obtain ⟨i, rfl, hi, hO, bT, bF, k2, hry, hB, hK⟩ := hrel
        by_cases hil : i < ys.length
        ·--[PUSH
         have hil' : (i : Int) < (ys.length : Int) := by omega
         obtain ⟨gy, oy, rfl, hSy, hgy⟩ := hry.base (by omega)
         have hcy := hry.flat (enc := fun x => [.int .i64 x]) hil
         obtain ⟨y, hy⟩ : ∃ y, y = ys[i] := ⟨_, rfl⟩
         rw [← hy] at hcy
         have q0 : wr.cell? ⟨gy, oy + i, none⟩ = some (.int .i64 y) := by have := hcy.at_ 0 rfl; simpa using this
         have Hst2 : Hid (acc2 ++ (ys.take (i + 1)).map (fun y => (⟨pw, fi, y⟩ : FlawD)) = acc2 ++ (ys.take i).map (fun y => (⟨pw, fi, y⟩ : FlawD)) ++ [⟨pw, fi, y⟩]) := by
          show _ = _
          rw [List.take_succ_eq_append_getElem hil, List.map_append, ← hy]; simp
         have hl3 : (acc2 ++ (ys.take i).map (fun y => (⟨pw, fi, y⟩ : FlawD))).length ≤ 200 := by
          have := Hacc2.out
          rw [List.length_append, List.length_map, List.length_take]; omega
         obtain ⟨acc3, hac3⟩ : ∃ a, a = acc2 ++ (ys.take i).map (fun y => (⟨pw, fi, y⟩ : FlawD)) := ⟨_, rfl⟩
         rw [← hac3] at hO Hst2 hl3
         have Hl3 := Lib.hid hl3
         obtain ⟨As, cs, rfl, -⟩ := hO.form
         have b0 : wr.cell? ⟨T, 0, none⟩ = some (.string pw) := bT.cell 0
         have f0 : wr.cell? ⟨F, 0, none⟩ = some (.int .i64 fi) := bF.cell 0
         have bl := bT.lt
         have fl := bF.lt
         clear hcy hy hl3 hac3
         go_wp2_with (at_builtin; go_must (refine wl_append _ rfl (.tmp 78) (.tmp 85) rfl sl_flaws RFlaw.fair rfl rfl (hO.alloc RFlaw.fair _) (Src.one (es := [.string pw, .int .i64 fi, .int .i64 y]) (y := (⟨pw, fi, y⟩ : FlawD)) rfl (Ones.of_all rfl) rfl (Lies.newAt (by first | rfl | simp [World.setCell]))) (NoT.lt _) ?_ ?_ ?_))
         ·have := Hl3.out; go_light; (try simp only [List.length_cons, List.length_nil]); omega
         ·have := hB.size; go_light; simp only [World.size_alloc] at *; omega
         ·intro v7 w7 hO7 hg7 hv7
          have hOa := hO.alloc RFlaw.fair (.cells #[.string pw, .int .i64 fi, .int .i64 y] 60)
          have hB7 := below_grown (hB.alloc hB.size (.cells #[.string pw, .int .i64 fi, .int .i64 y] 60)) hg7 (hB.alloc hB.size (.cells #[.string pw, .int .i64 fi, .int .i64 y] 60)).size (fun g' h => (hO.lt h).1)
          have bTa := bT.alloc (.cells #[.string pw, .int .i64 fi, .int .i64 y] 60)
          have bFa := bF.alloc (.cells #[.string pw, .int .i64 fi, .int .i64 y] 60)
          have k2a := k2.alloc (.cells #[.string pw, .int .i64 fi, .int .i64 y] 60)
          have bT7 := bTa.grown hg7 (bTa.ne_own hOa (by decide))
          have bF7 := bFa.grown hg7 (bFa.ne_own hOa (by decide))
          have k27 := k2a.grown hg7 (k2a.ne_own hOa (by decide))
          have hK7 := (hK.trans (Keep.alloc (Old w) wr (.cells #[.string pw, .int .i64 fi, .int .i64 y] 60))).trans (Keep.of_grown hg7 (fun k e hk => absurd (show k < w.heap.size from hk) (Nat.not_lt.2 (Nat.le_trans hG2.size (hO.lt e).1))))
          have hry7 := rsl_push RInt.fair hry _ hg7 hv7
          rw [← Hst2.out] at hO7
          clear hO bT bF k2 hry hB hK hOa bTa bFa k2a hg7 hv7 q0 b0 f0 bl fl Hst2 Hl3
          go_wp2_with fail
          go_roundw
          case rel => exact ⟨i + 1, by simp, by omega, hO7, bT7, bF7, k27, hry7, hB7, hK7⟩
          case measure => simp [intOf]; omega
        ·--[LAST
         obtain rfl : i = ys.length := by omega
         have hO5 := hO
         rw [List.take_length, ← Hz.out, ← Hst.out] at hO5
         clear hO hry bF
         go_wp2_with fail
         go_roundw
         case rel => exact ⟨j + 1, by simp, by omega, hO5, bT, k2, hB, hK⟩
         case measure => simp [intOf]; omega
     ·obtain rfl : j = t1.fields.length := by omega
      have hO' := hO
      rw [List.take_length, ← HQ.out, ← Hk.out] at hO'
      clear hO hK bT k2
      go_wp2_with fail
      go_roundw
      case rel => exact ⟨k + 1, by simp, by omega, hO', hB⟩
      case measure => simp [intOf]; omega
   ·--[END
    obtain rfl : k = P.length := by omega
    rw [List.take_length] at hO
    have hfl : P.flatMap (flawsP bw br) = flawsL bw br name := by rw [HP.out]; rfl
    rw [hfl] at hO
    obtain ⟨Ac, cc, rfl, -⟩ := hO.form
    have hlen := HL.out
    obtain ⟨L, hL⟩ : ∃ L, L = flawsL bw br name := ⟨_, rfl⟩
    rw [← hL] at hO hlen Hp2
    rw [← hL]
    have hs := Lib.hid (sortFlaws_any V.heap.size _ L wr hO (by omega) hB.size)
    have hvl : Hid (L.length ≤ 160) := hlen
    clear hL hfl hlen hO hk hlt hp16 u1 u2
    go_wp2_with fail
    refine hs.out.mono ?_
    rintro e w4 ⟨rfl, hO4, hb4⟩
    have hB4 := hB.trans hb4
    have hc := Lib.hid (compactF_any V.heap.size _ _ w4 hO4 (by rw [sortS_len]; have := hvl.out; omega) hB4.size)
    clear hs hO4 hb4 hB
    go_wp2_with fail
    refine hc.out.mono ?_
    rintro e w5 ⟨v5, rfl, hr5, hb5⟩
    obtain ⟨A5, c5, rfl, -, -⟩ := hr5.form
    have HR := Lib.hid hr5
    have hB5 := hB4.trans hb5
    clear hc hr5 hb5 hB4
    go_wp2_with fail
    refine bodyPost_ret (results_tmp2 rfl _ _ _) rfl ?_
    rw [Hp2.out]
    exact ⟨_, rfl, (RSl.fair RFlaw.fair).mono HR.out (fun k h _ => Nat.le_trans hG2.size h), below_via hG2 hB5 hG2.size⟩
 ·have Hp2 : Hid (p = ([], b)) := by show _ = _; rw [Hp.out, if_pos h0]
  clear Hp
  go_wp2_with fail
  refine bodyPost_ret (results_tmp2 rfl _ _ _) rfl ?_
  rw [Hp2.out]
  exact ⟨_, rfl, RSl.nil_, hG1⟩
end Go.Proofs.YtfidfakcbjoilaaGreatDoor
