/- The walk of the document's own flaws. -/
import Derived.Test.YtfidfakcbjoilaaGreatDoorRefFlawsSt
import Derived.Test.YtfidfakcbjoilaaGreatDoorFlawsWalk
set_option linter.all false
set_option maxRecDepth 100000
set_option maxHeartbeats 8000000
namespace Go.Proofs.YtfidfakcbjoilaaGreatDoor
open Go.RowKit Go.Maps
def RefFlawsPost (w : World) (l : List FlawD) (e : Ending) (w' : World) : Prop := ∃ v, e = .returned v ∧ RSl 3 32 RFlaw (New w) w' [v] l ∧ Below w.heap.size w w'
theorem keep_put {bm bf b : Nat} {w w' : World} (hg : w.grownBy w' (some b)) (hb : b = bm ∨ b = bf) : Keep (fun g => g ≠ bm ∧ g ≠ bf) w w' := Keep.of_grown hg (fun k e hk => by
 have := Option.some.inj e
 subst this
 rcases hb with h | h
 ·exact hk.1 h
 ·exact hk.2 h)
theorem outY_step (h : FlawD → Bool) (n : ByteArray) (id : Int) (j : Nat) : outY h n id (idsN (j + 1)) = outY h n id (idsN j) ++ (if h ⟨n, id, (j : Int) + 1⟩ = true then [⟨n, id, (j : Int) + 1⟩] else []) := by
 unfold outY
 rw [idsN_step, List.map_append, List.filter_append]
 congr 1
 by_cases e : h ⟨n, id, (j : Int) + 1⟩ = true <;> simp [e]
theorem outI_step (h : FlawD → Bool) (n : ByteArray) (i : Nat) : outI h n (idsN (i + 1)) = outI h n (idsN i) ++ outY h n ((i : Int) + 1) (idsN 3) := by
 unfold outI
 rw [idsN_step i, List.flatMap_append]
 simp
theorem outY_len (h : FlawD → Bool) (n : ByteArray) (id : Int) (j : Nat) : (outY h n id (idsN j)).length ≤ j := by
 unfold outY
 refine Nat.le_trans (List.length_filter_le _ _) ?_
 simp [idsN]
theorem outI_len (h : FlawD → Bool) (n : ByteArray) (i : Nat) : (outI h n (idsN i)).length ≤ i * 3 := by
 have := flat_len (l := idsN i) (n := 3) (F := fun id => outY h n id (idsN 3)) (fun id _ => outY_len _ _ _ _)
 unfold outI
 simpa [idsN] using this
theorem outR_len (h : FlawD → Bool) (b : BookD) : (outR h b).length ≤ b.length * 90 := flat_len (fun t _ => outI_len h t.name 30)
theorem reads_len (w r : BookD) (f g : FieldD) : (readsF w r f g).length ≤ 3 := by
 unfold readsF
 rw [List.length_append, List.length_append]
 have h1 : (if kindOf f.kind ≠ kindOf g.kind then [1] else [] : List Int).length ≤ 1 := by split <;> simp
 have h2 : (if f.rule = 3 ∧ g.rule ≠ 3 then [2] else [] : List Int).length ≤ 1 := by split <;> simp
 have h3 : (if kindOf f.kind ≠ 0 ∨ kindOf g.kind ≠ 0 ∨ g.kind = 2 then [] else if badR w r f g = true then [3] else [] : List Int).length ≤ 1 := by
  split
  ·simp
  ·split <;> simp
 omega
theorem outR_take {h : FlawD → Bool} {b : BookD} {k : Nat} (hk : k < b.length) : outR h (b.take (k + 1)) = outR h (b.take k) ++ outI h b[k].name (idsN 30) := by
 unfold outR
 rw [List.take_succ_eq_append_getElem hk, List.flatMap_append]
 simp
theorem refFlaws_any (S : Nat → Prop) (vw vr : Value) (bw br : BookD) (name : ByteArray) (w : World) (hb1 : RSl 5 96 RType S w [vw] bw) (hb2 : RSl 5 96 RType S w [vr] br) (hn : bothF bw br name = 0) (o1 : BookOk bw) (o2 : BookOk br) :
  Calls Tryz.prog 28 #[.agg #[vw], .agg #[vr], .string name] w (RefFlawsPost w (flawsF bw br name).1) := by
 obtain ⟨AW, cw, rfl, -, -⟩ := hb1.form
 obtain ⟨AR, cr, rfl, -, -⟩ := hb2.form
 obtain ⟨x1, x2, x3⟩ := boxes2 w [.slice AW bw.length cw] [.slice AR br.length cr] 24 24
 have H1 := Lib.hid ((RSl.fair RType.fair).old hb1)
 have H2 := Lib.hid ((RSl.fair RType.fair).old hb2)
 obtain ⟨hw, hr, hn1, hn2⟩ := bothF_ok hn
 have HG := Lib.hid (And.intro hw (And.intro hr hn))
 have HK := Lib.hid (keys_ok hn o1 o2)
 have HO1 := Lib.hid o1
 have HO2 := Lib.hid o2
 have hl4 : bw.length ≤ 4 ∧ br.length ≤ 4 := ⟨(good_parts hw).1, (good_parts hr).1⟩
 have hnm : name.size ≤ 140737488351232 := by
  obtain ⟨t, -, -, ht, e, -⟩ := noneB_type hn1
  rw [← e]; exact (o1 t ht).1
 have hrd := Lib.hid (fun (fi fk fr gi gk gr : Int) (fn ft gn gt : ByteArray) (h0 : 0 ≤ fk) (h5 : fk ≤ 5) (k0 : 0 ≤ gk) (k5 : gk ≤ 5) W (h : Below w.heap.size w W) => reads_any (Old w) _ _ bw br fi fk fr gi gk gr fn ft gn gt W ((RSl.fair RType.fair).below H1.out h) ((RSl.fair RType.fair).below H2.out h) h0 h5 k0 k5)
 obtain ⟨p, hp⟩ : ∃ p, p = (flawsF bw br name).1 := ⟨_, rfl⟩
 rw [← hp]
 have Hp := Lib.hid hp
 have hmm := @run_makeMap Tryz.prog
 clear hb1 hb2 hn o1 o2 hw hr hn1 hn2 hp
 go_enter Tryz.func28, Tryz.ntmps28
 go_upto_region 1 with fail
 generalize (World.alloc _ (Obj.cells [.slice AR br.length cr].toArray 24)) = W0 at x1 x2 x3 ⊢
 have hb0 : w.heap.size + 1 < W0.heap.size := x2.lt
 obtain ⟨w1, hr1, hM1, hg1⟩ := (MapB.made (k := 89) (enc := keyV) W0).put law_pair map_two keyV_inj (x := (name, name)) ⟨_, key_pair (le_max hnm) (le_max hnm)⟩ (by omega)
 change (Instr.mapUpdate _ (.map (some W0.heap.size)) (.agg #[.string name, .string name]) _).run _ _ = _ at hr1
 have y1 := (x1.alloc (.map #[] 0)).grown hg1 (fun e => by have := Option.some.inj e; omega)
 have y2 := (x2.alloc (.map #[] 0)).grown hg1 (fun e => by have := Option.some.inj e; omega)
 have hG1 := below_grown (x3.alloc x3.size (.map #[] 0)) hg1 (by simp; exact Nat.le_succ_of_le x3.size) (fun g' h => by have := Option.some.inj h; omega)
 have hsz1 : W0.heap.size < w1.heap.size := hM1.lt
 go_upto_region 3 with fail
 have v1 := y1.alloc (.map #[] 0)
 have v2 := y2.alloc (.map #[] 0)
 have hG := hG1.alloc hG1.size (.map #[] 0)
 have hF2 : MapB 60 flawV (w1.alloc (.map #[] 0)) w1.heap.size 0 (fun _ => false) := MapB.made w1
 have hst : StR bw br name 0 (SAr bw br bw.length) W0.heap.size w1.heap.size (w1.alloc (.map #[] 0)) [(name, name)] [] true 0 := ⟨RunR.start_ _, (hM1.alloc (.map #[] 0)).congr (fun q => by simp [memK, eq_comm]), hF2.congr (fun x => by simp)⟩
 generalize hbm : W0.heap.size = bm at hst hb0 hsz1 ⊢
 generalize hbf : w1.heap.size = bf at hst hsz1 ⊢
 generalize w1.alloc _ = V at hst v1 v2 hG ⊢
 have hne : bm ≠ bf := by omega
 have hm1 : w.heap.size + 1 < bm := hb0
 have hf1 : w.heap.size + 1 < bf := by omega
 have Hst := Lib.hid hst
 have HOld : Hid (∀ g, Old w g → g ≠ bm ∧ g ≠ bf) := fun g hg => by
  have : g < w.heap.size := hg
  omega
 obtain ⟨U, hU⟩ : ∃ U, U = (pairsF bw br name).map keyP := ⟨_, rfl⟩
 have HU := Lib.hid hU
 rw [← hU] at HK
 have hcnt : Hid (∀ (n0 n : Nat) (S : TypeD → TypeD → FieldD → Prop) (W : World) (met : List (ByteArray × ByteArray)) (found : List FlawD) (more : Bool), StR bw br name n0 S bm bf W met found more n → metN U bm W = met.length ∧ met.length ≤ 16) := fun n0 n S W met found more h =>
  ⟨metN_eq HK.out.1 HK.out.2 h.mm h.run.nodup (fun q hq => by rw [HU.out]; obtain ⟨p, hp, e⟩ := h.run.reach q hq; exact List.mem_map.2 ⟨p, hp, e⟩), h.run.few HG.out.2.2⟩
 clear x1 x2 x3 y1 y2 hr1 hM1 hg1 hG1 hF2 hst hbm hbf hb0 hsz1 hU hmm hnm
 go_wp2_with fail
 go_loopw [9] (fun c9 wr => ∃ (met : List (ByteArray × ByteArray)) (found : List FlawD) (more : Bool) (n0 n : Nat), c9 = .bool more ∧ Hid (StR bw br name n0 (SAr bw br bw.length) bm bf wr met found more n) ∧ Hid (more = true → n ≤ 240 * met.length) ∧ Keep (fun g => g ≠ bm ∧ g ≠ bf) V wr ∧ Below w.heap.size w wr) (fun c9 wr => cntR U bm c9 wr)
 case atStart => exact ⟨_, _, true, 0, 0, rfl, Hst, fun _ => Nat.zero_le _, Keep.refl _ _, hG⟩
 case round =>
  clear Hst hG
  obtain ⟨met, found, more, m0, n, rfl, Hst, Hn, hK, hB⟩ := hrel
  cases more with
  | true =>
   have hbeg := Lib.hid Hst.out.begin_
   have hn0 := Hn.out rfl
   obtain ⟨n0, hn0e⟩ : ∃ k, k = met.length := ⟨_, rfl⟩
   have Hc0 : Hid (metN U bm wr = n0 ∧ n0 ≤ 16) := by show _ ∧ _; rw [hn0e]; exact hcnt.out _ _ _ _ _ _ _ Hst.out
   rw [← hn0e] at hbeg hn0
   have u1 := v1.keep hK ⟨by omega, by omega⟩
   have z1 := u1.cell 0
   have l1 := u1.lt
   clear Hn Hst hn0e u1
   go_wp2_with fail
   clear z1 l1
   go_loopw [9, 37] (fun c9 c37 wa => ∃ (ka : Nat) (met : List (ByteArray × ByteArray)) (found : List FlawD) (more : Bool) (n : Nat), c9 = .bool more ∧ c37 = .int .i64 ka ∧ ka ≤ bw.length ∧ Hid (StR bw br name n0 (SAr bw br ka) bm bf wa met found more n) ∧ n ≤ 240 * n0 + 60 * ka ∧ Keep (fun g => g ≠ bm ∧ g ≠ bf) V wa ∧ Below w.heap.size w wa) (fun _ c37 _ => bw.length - (intOf c37).toNat)
   case atStart => exact ⟨0, met, found, false, n, rfl, rfl, Nat.zero_le _, hbeg, by omega, hK, hB⟩
   case round =>
    clear hbeg hn0 hK hB
    obtain ⟨ka, met, found, more, n, rfl, rfl, hka, Hst, hn, hK, hB⟩ := hrel
    by_cases hlt : ka < bw.length
    ·--[ARND
     have hlt' : (ka : Int) < (bw.length : Int) := by omega
     obtain ⟨g, o, es, rfl, hSg, hg, -, hre, hc⟩ := ((RSl.fair RType.fair).below H1.out hB).at_ hlt
     have ham := List.getElem_mem hlt
     obtain ⟨ta, hta⟩ : ∃ t, t = bw[ka] := ⟨_, rfl⟩
     have Hta := Lib.hid hta
     rw [← hta] at hre ham
     have Ham := Lib.hid ham
     obtain ⟨P1, p1, P2, p2, P3, p3, rfl, -, -, -⟩ := hre.parts
     have q0 : wr.cell? ⟨g, o + ka * 5, none⟩ = some (.string ta.name) := hc.at_ 0 rfl
     have q1 : wr.cell? ⟨g, o + ka * 5 + 1, none⟩ = some (.bool ta.enum) := hc.at_ 1 rfl
     have q2 : wr.cell? ⟨g, o + ka * 5 + 2, none⟩ = some (.slice P1 ta.fields.length p1) := hc.at_ 2 rfl
     have q3 : wr.cell? ⟨g, o + ka * 5 + 3, none⟩ = some (.slice P2 ta.gone.length p2) := hc.at_ 3 rfl
     have q4 : wr.cell? ⟨g, o + ka * 5 + 4, none⟩ = some (.slice P3 ta.items.length p3) := hc.at_ 4 rfl
     have bA := Box.new wr 46 [.string ta.name, .bool ta.enum, .slice P1 ta.fields.length p1, .slice P2 ta.gone.length p2, .slice P3 ta.items.length p3]
     have hK3 := hK.trans (Keep.alloc (fun g => g ≠ bm ∧ g ≠ bf) wr (.cells [.string ta.name, .bool ta.enum, .slice P1 ta.fields.length p1, .slice P2 ta.gone.length p2, .slice P3 ta.items.length p3].toArray 46))
     have hB3 := hB.alloc hB.size (.cells [.string ta.name, .bool ta.enum, .slice P1 ta.fields.length p1, .slice P2 ta.gone.length p2, .slice P3 ta.items.length p3].toArray 46)
     have Hst3 := Lib.hid ((Hst.out.alloc (.cells [.string ta.name, .bool ta.enum, .slice P1 ta.fields.length p1, .slice P2 ta.gone.length p2, .slice P3 ta.items.length p3].toArray 46)).toB (ta := ta))
     have hre3 := RType.fair.below hre ((Below.here wr).alloc (Nat.le_refl _) (.cells [.string ta.name, .bool ta.enum, .slice P1 ta.fields.length p1, .slice P2 ta.gone.length p2, .slice P3 ta.items.length p3].toArray 46))
     have hYA : wr.heap.size ≠ bm ∧ wr.heap.size ≠ bf := by have := Hst.out.lt; omega
     clear hSg hc hre hta ham hK hB Hst
     go_upto_region 9 with fail
     clear q0 q1 q2 q3 q4 hg
     generalize wr.heap.size = YA at bA hYA ⊢
     generalize (World.alloc wr _) = Vb at bA hK3 hB3 Hst3 hre3 ⊢
     have u2 := v2.keep hK3 ⟨by omega, by omega⟩
     have z2 := u2.cell 0
     have l2 := u2.lt
     have HFl := Lib.hid (RType.rows_ hre3).1
     obtain ⟨_, _, -, -, hfb⟩ := HFl.out.form
     have hf5 := type_fields HG.out.1 Ham.out
     clear hre3 u2
     go_wp2_with fail
     clear z2 l2
     go_loopw [9, 44] (fun c9 c44 wb => ∃ (kb : Nat) (met : List (ByteArray × ByteArray)) (found : List FlawD) (more : Bool) (n : Nat), c9 = .bool more ∧ c44 = .int .i64 kb ∧ kb ≤ br.length ∧ Hid (StR bw br name n0 (SBr bw br ka ta kb) bm bf wb met found more n) ∧ n ≤ 240 * n0 + 60 * ka + 15 * kb ∧ Keep (fun g => g ≠ bm ∧ g ≠ bf) Vb wb ∧ Below w.heap.size w wb) (fun _ c44 _ => br.length - (intOf c44).toNat)
     case atStart => exact ⟨0, met, found, more, n, rfl, rfl, Nat.zero_le _, Hst3, by omega, Keep.refl _ _, hB3⟩
     case round =>
      clear Hst3 hn hB3
      obtain ⟨kb, met, found, more, n, rfl, rfl, hkb, Hst, hn, hK, hB⟩ := hrel
      by_cases hlb : kb < br.length
      ·--[BRND
       have hlb' : (kb : Int) < (br.length : Int) := by omega
       obtain ⟨g, o, es, rfl, hSg, hg, -, hre, hc⟩ := ((RSl.fair RType.fair).below H2.out hB).at_ hlb
       have hbm := List.getElem_mem hlb
       obtain ⟨tb, htb⟩ : ∃ t, t = br[kb] := ⟨_, rfl⟩
       have Htb := Lib.hid htb
       rw [← htb] at hre hbm
       have Hbm := Lib.hid hbm
       obtain ⟨R1, r1, R2, r2, R3, r3, rfl, -, -, -⟩ := hre.parts
       have q0 : wr.cell? ⟨g, o + kb * 5, none⟩ = some (.string tb.name) := hc.at_ 0 rfl
       have q1 : wr.cell? ⟨g, o + kb * 5 + 1, none⟩ = some (.bool tb.enum) := hc.at_ 1 rfl
       have q2 : wr.cell? ⟨g, o + kb * 5 + 2, none⟩ = some (.slice R1 tb.fields.length r1) := hc.at_ 2 rfl
       have q3 : wr.cell? ⟨g, o + kb * 5 + 3, none⟩ = some (.slice R2 tb.gone.length r2) := hc.at_ 3 rfl
       have q4 : wr.cell? ⟨g, o + kb * 5 + 4, none⟩ = some (.slice R3 tb.items.length r3) := hc.at_ 4 rfl
       have bB := Box.new wr 46 [.string tb.name, .bool tb.enum, .slice R1 tb.fields.length r1, .slice R2 tb.gone.length r2, .slice R3 tb.items.length r3]
       have hK4 := hK.trans (Keep.alloc (fun g => g ≠ bm ∧ g ≠ bf) wr (.cells [.string tb.name, .bool tb.enum, .slice R1 tb.fields.length r1, .slice R2 tb.gone.length r2, .slice R3 tb.items.length r3].toArray 46))
       have hB4 := hB.alloc hB.size (.cells [.string tb.name, .bool tb.enum, .slice R1 tb.fields.length r1, .slice R2 tb.gone.length r2, .slice R3 tb.items.length r3].toArray 46)
       have Hst4 := Lib.hid (Hst.out.alloc (.cells [.string tb.name, .bool tb.enum, .slice R1 tb.fields.length r1, .slice R2 tb.gone.length r2, .slice R3 tb.items.length r3].toArray 46))
       have Hre4 := Lib.hid (RType.fair.below hre ((Below.here wr).alloc (Nat.le_refl _) (.cells [.string tb.name, .bool tb.enum, .slice R1 tb.fields.length r1, .slice R2 tb.gone.length r2, .slice R3 tb.items.length r3].toArray 46)))
       have hYB : wr.heap.size ≠ bm ∧ wr.heap.size ≠ bf := by have := Hst.out.lt; omega
       clear hSg hc hre htb hbm hK hB Hst
       go_upto_region 12 with fail
       clear q0 q1 q2 q3 q4 hg
       generalize wr.heap.size = YB at bB hYB ⊢
       generalize (World.alloc wr _) = Vc at bB hK4 hB4 Hst4 Hre4 ⊢
       have bA4 := bA.keep hK4 ⟨hYA.1, hYA.2⟩
       have a0 : Vc.cell? ⟨YA, 0, none⟩ = some (.string ta.name) := bA4.cell 0
       have a2 : Vc.cell? ⟨YA, 2, none⟩ = some (.slice P1 ta.fields.length p1) := bA4.cell 2
       have al := bA4.lt
       have b0 : Vc.cell? ⟨YB, 0, none⟩ = some (.string tb.name) := bB.cell 0
       have bl := bB.lt
       have hlk := Hst4.out.met_look (HO1.out ta Ham.out).1 (HO2.out tb Hbm.out).1
       by_cases hin : (ta.name, tb.name) ∈ met
       ·--[IN
        rw [memK_true hin] at hlk
        have Hin := Lib.hid hin
        have Hst5 := Lib.hid (Hst4.out.toF (tb := tb))
        have HK4 := Lib.hid hK4
        have HKV := Lib.hid (hK3.trans hK4)
        clear hin Hst4
        go_wp2_with fail
        clear hlk a0 a2 al b0 bl bA4
        go_loopw [9, 59] (fun c9 c59 wc => ∃ (kf : Nat) (met : List (ByteArray × ByteArray)) (found : List FlawD) (more : Bool) (n : Nat), c9 = .bool more ∧ c59 = .int .i64 kf ∧ kf ≤ ta.fields.length ∧ Hid (StR bw br name n0 (SFr bw br ka ta kb tb kf) bm bf wc met found more n) ∧ Hid ((ta.name, tb.name) ∈ met) ∧ n ≤ 240 * n0 + 60 * ka + 15 * kb + 3 * kf ∧ Keep (fun g => g ≠ bm ∧ g ≠ bf) Vc wc ∧ Below w.heap.size w wc) (fun _ c59 _ => ta.fields.length - (intOf c59).toNat)
        case atStart => exact ⟨0, met, found, more, n, rfl, rfl, Nat.zero_le _, Hst5, Hin, by omega, Keep.refl _ _, hB4⟩
        case round =>
         clear Hst5 Hin hn hB4
         obtain ⟨kf, met, found, more, n, rfl, rfl, hkf, Hst, Hin, hn, hK, hB⟩ := hrel
         by_cases hlf : kf < ta.fields.length
         ·--[FRND
          have hlf' : (kf : Int) < (ta.fields.length : Int) := by omega
          have hFl := (RSl.fair RField.fair).keep HFl.out ((HK4.out.trans hK).mono HOld.out)
          obtain ⟨gf, of, es, rfl, hSf, hgf, -, hre, hcf⟩ := hFl.at_ hlf
          have hfm := List.getElem_mem hlf
          obtain ⟨f, hf⟩ : ∃ f, f = ta.fields[kf] := ⟨_, rfl⟩
          have Hf := Lib.hid hf
          rw [← hf] at hre hfm
          obtain rfl : es = fieldCells f := hre
          have Hfp := Lib.hid (field_at HG.out.1 Ham.out hfm)
          have Hfm := Lib.hid hfm
          have Hsz := Lib.hid ((HO1.out ta Ham.out).2.1 f hfm).2
          obtain ⟨rg, hrg⟩ : ∃ rg, rg = fieldOf tb f.id := ⟨_, rfl⟩
          have hfo := Lib.hid (fun W (h : Keep (Old w) Vc W) => fieldIn_any (Old w) _ tb f.id W (RType.fair.keep Hre4.out h))
          rw [← hrg] at hfo
          have Hrg := Lib.hid hrg.symm
          obtain ⟨fi, fn, ft, fk, fr⟩ := f
          dsimp only at hfo Hrg Hsz
          have r0 : wr.cell? ⟨gf, of + kf * 5, none⟩ = some (.int .i64 fi) := hcf.at_ 0 rfl
          have r1' : wr.cell? ⟨gf, of + kf * 5 + 1, none⟩ = some (.string fn) := hcf.at_ 1 rfl
          have r2' : wr.cell? ⟨gf, of + kf * 5 + 2, none⟩ = some (.string ft) := hcf.at_ 2 rfl
          have r3' : wr.cell? ⟨gf, of + kf * 5 + 3, none⟩ = some (.int .i64 fk) := hcf.at_ 3 rfl
          have r4' : wr.cell? ⟨gf, of + kf * 5 + 4, none⟩ = some (.int .i64 fr) := hcf.at_ 4 rfl
          have bF := Box.new wr 55 [.int .i64 fi, .string fn, .string ft, .int .i64 fk, .int .i64 fr]
          have hK5 := hK.trans (Keep.alloc (fun g => g ≠ bm ∧ g ≠ bf) wr (.cells [.int .i64 fi, .string fn, .string ft, .int .i64 fk, .int .i64 fr].toArray 55))
          have hB5 := hB.alloc hB.size (.cells [.int .i64 fi, .string fn, .string ft, .int .i64 fk, .int .i64 fr].toArray 55)
          have Hst5 := Lib.hid (Hst.out.alloc (.cells [.int .i64 fi, .string fn, .string ft, .int .i64 fk, .int .i64 fr].toArray 55))
          have hYF : wr.heap.size ≠ bm ∧ wr.heap.size ≠ bf := by have := Hst.out.lt; omega
          clear hFl hSf hcf hf hrg hfm hK hB Hst
          go_upto_region 16 with fail
          clear r0 r1' r2' r3' r4' hgf
          generalize wr.heap.size = F at bF hYF ⊢
          generalize (World.alloc wr _) = w3 at bF hK5 hB5 Hst5 ⊢
          have k2 := bB.keep hK5 ⟨hYB.1, hYB.2⟩
          obtain ⟨c0, c1, c2, c3, c4⟩ := k2.five
          have cl := k2.lt
          have f0 : w3.cell? ⟨F, 0, none⟩ = some (.int .i64 fi) := bF.cell 0
          have fl := bF.lt
          go_wp2_with fail
          refine (hfo.out _ (hK5.mono HOld.out)).mono ?_
          rintro e w4 ⟨rfl, hb4⟩
          obtain ⟨rv, hrv⟩ : ∃ rv, rv = rg.getD .zero := ⟨_, rfl⟩
          rw [← hrv]
          have Hrv := Lib.hid hrv
          obtain ⟨gi, gn, gt, gk, gr⟩ := rv
          simp only [fieldCells]
          clear hrv
          have bG := Box.new w4 55 [.int .i64 gi, .string gn, .string gt, .int .i64 gk, .int .i64 gr]
          have bF4 := (bF.below hb4 bF.lt).alloc (.cells [.int .i64 gi, .string gn, .string gt, .int .i64 gk, .int .i64 gr].toArray 55)
          have hK6 := (hK5.trans (Keep.of_below hb4)).trans (Keep.alloc (fun g => g ≠ bm ∧ g ≠ bf) w4 (.cells [.int .i64 gi, .string gn, .string gt, .int .i64 gk, .int .i64 gr].toArray 55))
          have hB6 := (below_via hB5 hb4 hB5.size).alloc (below_via hB5 hb4 hB5.size).size (.cells [.int .i64 gi, .string gn, .string gt, .int .i64 gk, .int .i64 gr].toArray 55)
          have Hst6 := Lib.hid ((Hst5.out.below hb4).alloc (.cells [.int .i64 gi, .string gn, .string gt, .int .i64 gk, .int .i64 gr].toArray 55))
          have hYG : w4.heap.size ≠ bm ∧ w4.heap.size ≠ bf := by have := (Hst5.out.below hb4).lt; omega
          clear c0 c1 c2 c3 c4 cl f0 fl bF k2 hK5 hB5 Hst5 hb4 hfo
          go_upto_region 17 with fail
          generalize w4.heap.size = G at bG hYG ⊢
          generalize (World.alloc w4 _) = w5 at bG bF4 hK6 hB6 Hst6 ⊢
          cases rg with
          | none =>
           have Hst7 := Lib.hid (Hst6.out.stepF hlf (fun g hg => by
            rw [← Hf.out] at hg
            have := Hrg.out.symm.trans hg
            cases this))
           clear Hst6 bF4 bG
           go_wp2_with fail
           go_roundw
           case rel => exact ⟨kf + 1, met, found, more, n, rfl, by simp, by omega, Hst7, Hin, by omega, hK6, hB6⟩
           case measure => simp [intOf]; omega
          | some g =>
           have hg : g = ⟨gi, gn, gt, gk, gr⟩ := Hrv.out.symm
           subst hg
           have Hgp := Lib.hid (field_at HG.out.2.1 Hbm.out (fieldOf_in Hrg.out))
           have Hsz2 := Lib.hid ((HO2.out tb Hbm.out).2.1 _ (fieldOf_in Hrg.out)).2
           dsimp only at Hsz2
           have hrc := Lib.hid (hrd.out fi fk fr gi gk gr fn ft gn gt (by have := Hfp.out.2.2.2.1; exact Int.le_trans (by decide) this) Hfp.out.2.2.2.2.1 (by have := Hgp.out.2.2.2.1; exact Int.le_trans (by decide) this) Hgp.out.2.2.2.2.1 w5 hB6)
           obtain ⟨ys, hys⟩ : ∃ ys, ys = readsF bw br ⟨fi, fn, ft, fk, fr⟩ ⟨gi, gn, gt, gk, gr⟩ := ⟨_, rfl⟩
           have hyl : ys.length ≤ 3 := by rw [hys]; exact reads_len _ _ _ _
           have Hys := Lib.hid hys.symm
           rw [← hys] at hrc
           have y1 := v1.keep (HKV.out.trans hK6) ⟨by omega, by omega⟩
           have y2 := v2.keep (HKV.out.trans hK6) ⟨by omega, by omega⟩
           have z1 := y1.cell 0
           have z2 := y2.cell 0
           have l1 := y1.lt
           have l2 := y2.lt
           obtain ⟨a0, a1, a2, a3, a4⟩ := bF4.five
           have al := bF4.lt
           obtain ⟨b0, b1, b2, b3, b4⟩ := bG.five
           have bl := bG.lt
           clear hys y1 y2
           go_wp2_with fail
           refine hrc.out.mono ?_
           rintro e w6 ⟨vy, rfl, hry, hb6⟩
           obtain ⟨Ay, cy, rfl, -, -⟩ := hry.form
           have bF6 := bF4.below hb6 bF4.lt
           have bG6 := bG.below hb6 bG.lt
           have hK7 := hK6.trans (Keep.of_below hb6)
           have hB7 := below_via hB6 hb6 hB6.size
           have Hst7 := Lib.hid (Hst6.out.below hb6)
           have Hry := Lib.hid ((RSl.fair RInt.fair).mono (T := (fun g => g ≠ bm ∧ g ≠ bf)) hry (fun k hk _ => by have : w5.heap.size ≤ k := hk; have := Hst6.out.lt; omega))
           clear z1 z2 l1 l2 a0 a1 a2 a3 a4 al b0 b1 b2 b3 b4 bl bF4 bG hK6 hB6 Hst6 hb6 hrc hry
           go_wp2_with fail
           go_loopw [78] (fun c78 we => ∃ (ky : Nat) (found : List FlawD) (n : Nat), c78 = .int .i64 ky ∧ ky ≤ ys.length ∧ Hid (StR bw br name n0 (SFr bw br ka ta kb tb kf) bm bf we met found more n) ∧ Hid (∀ y ∈ ys.take ky, (⟨ta.name, fi, y⟩ : FlawD) ∈ found) ∧ n ≤ 240 * n0 + 60 * ka + 15 * kb + 3 * kf + ky ∧ Keep (fun g => g ≠ bm ∧ g ≠ bf) w6 we ∧ Below w.heap.size w we) (fun c78 _ => ys.length - (intOf c78).toNat)
           case atStart => exact ⟨0, found, n, rfl, Nat.zero_le _, Hst7, by show ∀ y ∈ _, _; simp, by omega, Keep.refl _ _, hB7⟩
           case round =>
            clear Hst7 hn hB7
            obtain ⟨ky, found, n, rfl, hky, Hst, Hall, hn, hK, hB⟩ := hrel
            by_cases hly : ky < ys.length
            ·--[YRND
             have hly' : (ky : Int) < (ys.length : Int) := by omega
             have hry := (RSl.fair RInt.fair).keep Hry.out hK
             obtain ⟨gy, oy, rfl, hSy, hgy⟩ := hry.base (by omega)
             have hcy := hry.flat (enc := fun x => [.int .i64 x]) hly
             have hym := List.getElem_mem hly
             obtain ⟨y, hy⟩ : ∃ y, y = ys[ky] := ⟨_, rfl⟩
             have Hy := Lib.hid hy
             rw [← hy] at hcy hym
             have q0 : wr.cell? ⟨gy, oy + ky, none⟩ = some (.int .i64 y) := by have := hcy.at_ 0 rfl; simpa using this
             rw [← Hys.out] at hym
             obtain ⟨wu, hu1, hu2, hu3⟩ := Hst.out.tell HG.out.1 HG.out.2.1 Ham.out Hbm.out Hin.out Hfm.out Hrg.out hym (HO1.out ta Ham.out).1 (by have := Hc0.out.2; omega) hne
             dsimp only at hu1 hu2
             have Hu2 := Lib.hid hu2
             have hKu := hK.trans (keep_put hu3 (.inr rfl))
             have hBu := below_grown hB hu3 hB.size (fun g' h => by have := Option.some.inj h; omega)
             have bAy := (bA.keep (HK4.out.trans (hK7.trans hK)) ⟨hYA.1, hYA.2⟩)
             have bFy := bF6.keep hK ⟨hYF.1, hYF.2⟩
             have a0 : wr.cell? ⟨YA, 0, none⟩ = some (.string ta.name) := bAy.cell 0
             have al := bAy.lt
             have f0 : wr.cell? ⟨F, 0, none⟩ = some (.int .i64 fi) := bFy.cell 0
             have fl := bFy.lt
             have Hall2 : Hid (∀ x ∈ ys.take (ky + 1), (⟨ta.name, fi, x⟩ : FlawD) ∈ ⟨ta.name, fi, y⟩ :: found) := by
              show ∀ x ∈ _, _
              intro x hx
              rcases (mem_take_succ hly).1 hx with h | h
              ·exact List.mem_cons_of_mem _ (Hall.out x h)
              ·rw [h, ← Hy.out]; exact List.mem_cons_self ..
             clear hry hcy hym hy hSy hu2 hu3 hK hB bAy bFy Hall Hst
             go_wp2_with fail
             go_roundw
             case rel => exact ⟨ky + 1, _, n + 1, by simp, by omega, Hu2, Hall2, by omega, hKu, hBu⟩
             case measure => simp [intOf]; omega
            ·--[YEND
             obtain rfl : ky = ys.length := by omega
             rw [List.take_length] at Hall
             have bFy := bF6.keep hK ⟨hYF.1, hYF.2⟩
             have bGy := bG6.keep hK ⟨hYG.1, hYG.2⟩
             have Hall3 : Hid (∀ y ∈ readsF bw br ⟨fi, fn, ft, fk, fr⟩ ⟨gi, gn, gt, gk, gr⟩, (⟨ta.name, fi, y⟩ : FlawD) ∈ found) := by rw [Hys.out]; exact Hall
             have hKw := (hK7.trans hK).trans (Keep.alloc (fun g => g ≠ bm ∧ g ≠ bf) wr (.cells #[.string ft, .string gt] 89))
             have hBw := hB.alloc hB.size (.cells #[.string ft, .string gt] 89)
             have Hst8 := Lib.hid (Hst.out.alloc (.cells #[.string ft, .string gt] 89))
             have bP : Box (wr.alloc (.cells [Value.string ft, .string gt].toArray 89)) wr.heap.size 89 [.string ft, .string gt] := Box.new wr _ _
             have bFz := bFy.alloc (.cells #[.string ft, .string gt] 89)
             have bGz := bGy.alloc (.cells #[.string ft, .string gt] 89)
             have f2 : wr.cell? ⟨F, 2, none⟩ = some (.string ft) := bFy.cell 2
             have g2 : wr.cell? ⟨G, 2, none⟩ = some (.string gt) := bGy.cell 2
             have fl := bFy.lt
             have gl := bGy.lt
             clear Hry hK hB bFy bGy Hst Hall
             go_upto_region 24 with fail
             clear f2 g2 fl gl
             generalize wr.heap.size = PP at bP ⊢
             generalize (World.alloc wr _) = w9 at bP bFz bGz hKw hBw Hst8 ⊢
             have hlk := Hst8.out.met_look Hsz.out Hsz2.out
             have f3 : w9.cell? ⟨F, 3, none⟩ = some (.int .i64 fk) := bFz.cell 3
             have g3 : w9.cell? ⟨G, 3, none⟩ = some (.int .i64 gk) := bGz.cell 3
             have fl := bFz.lt
             have gl := bGz.lt
             have p0 : w9.cell? ⟨PP, 0, none⟩ = some (.string ft) := bP.cell 0
             have p1' : w9.cell? ⟨PP, 1, none⟩ = some (.string gt) := bP.cell 1
             have pl := bP.lt
             have HstF := Hf.out
             by_cases hc : fk = 5 ∧ gk = 5 ∧ (ft, gt) ∉ met
             ·--[MEET
              obtain ⟨rfl, rfl, hno⟩ := hc
              rw [memK_false hno] at hlk
              obtain ⟨wu, hu1, hu2, hu3⟩ := Hst8.out.meet HG.out.2.2 Ham.out Hbm.out Hin.out Hfm.out Hrg.out rfl rfl hno Hsz.out Hsz2.out hne (SFr bw br ka ta kb tb (kf + 1))
              dsimp only at hu1 hu2
              have Hu2 := Lib.hid hu2
              have Hin2 : Hid ((ta.name, tb.name) ∈ (ft, gt) :: met) := List.mem_cons_of_mem _ Hin.out
              have hKu := hKw.trans (keep_put hu3 (.inl rfl))
              have hBu := below_grown hBw hu3 hBw.size (fun g' h => by have := Option.some.inj h; omega)
              clear hu2 hu3 hno bP bFz bGz Hst8 hKw hBw Hall3 HstF
              go_wp2_with fail
              go_roundw
              case rel => exact ⟨kf + 1, _, found, true, n, rfl, by simp, by omega, Hu2, Hin2, by omega, hKu, hBu⟩
              case measure => simp [intOf]; omega
             ·--[PASSBY
              have Hst9 := Lib.hid (Hst8.out.stepF hlf (fun g hg => by
               rw [← HstF] at hg ⊢
               have := Hrg.out.symm.trans hg
               obtain rfl := Option.some.inj this
               refine ⟨Hall3.out, fun h5 h6 => Classical.byContradiction fun hno => hc ⟨h5, h6, hno⟩⟩))
              clear HstF Hst8 Hall3 bP bFz bGz
              by_cases h5 : fk = 5
              ·subst h5
               by_cases h6 : gk = 5
               ·subst h6
                have hin : (ft, gt) ∈ met := Classical.byContradiction fun hno => hc ⟨rfl, rfl, hno⟩
                rw [memK_true hin] at hlk
                clear hc hin
                go_wp2_with fail
                go_roundw
                case rel => exact ⟨kf + 1, met, found, more, n, rfl, by simp, by omega, Hst9, Hin, by omega, hKw, hBw⟩
                case measure => simp [intOf]; omega
               ·have e6 : (gk == 5) = false := by simpa using h6
                clear hc h6 hlk
                go_wp2_with fail
                go_roundw
                case rel => exact ⟨kf + 1, met, found, more, n, rfl, by simp, by omega, Hst9, Hin, by omega, hKw, hBw⟩
                case measure => simp [intOf]; omega
              ·have e5 : (fk == 5) = false := by simpa using h5
               clear hc h5 hlk
               go_wp2_with fail
               go_roundw
               case rel => exact ⟨kf + 1, met, found, more, n, rfl, by simp, by omega, Hst9, Hin, by omega, hKw, hBw⟩
               case measure => simp [intOf]; omega
         ·--[FEND
          obtain rfl : kf = ta.fields.length := by omega
          have Hst2 := Lib.hid (Hst.out.endF hlb Htb.out)
          clear Hst Hin
          go_wp2_with fail
          go_roundw
          case rel => exact ⟨kb + 1, met, found, more, n, rfl, by simp, by omega, Hst2, by omega, hK4.trans hK, hB⟩
          case measure => simp [intOf]; omega
       ·--[OUT
        rw [memK_false hin] at hlk
        have Hst5 := Lib.hid (Hst4.out.skipB hlb Htb.out hin)
        clear hin Hst4
        go_wp2_with fail
        go_roundw
        case rel => exact ⟨kb + 1, met, found, more, n, rfl, by simp, by omega, Hst5, by omega, hK4, hB4⟩
        case measure => simp [intOf]; omega
      ·--[BEND
       obtain rfl : kb = br.length := by omega
       have Hst2 := Lib.hid (Hst.out.endB hlt Hta.out)
       clear Hst
       go_wp2_with fail
       go_roundw
       case rel => exact ⟨ka + 1, met, found, more, n, rfl, by simp, by omega, Hst2, by omega, hK3.trans hK, hB⟩
       case measure => simp [intOf]; omega
    ·--[AEND
     obtain rfl : ka = bw.length := by omega
     go_wp2_with fail
     go_roundw
     case rel => exact ⟨met, found, more, n0, n, rfl, Hst, fun e => by have := Hst.out.run.grew e; omega, hK, hB⟩
     case measure =>
      have h0 := Hc0.out
      have h1 := hcnt.out _ _ _ _ _ _ _ Hst.out
      have h2 := Hst.out.run.grew
      cases more with
      | false =>
       show 0 < 18 - metN U bm _
       rw [h0.1]; omega
      | true =>
       show 18 - metN U bm _ < 18 - metN U bm _
       rw [h0.1, h1.1]
       have := h2 rfl
       omega
  | false =>
   have Hmem : Hid (∀ x, x ∈ found ↔ x ∈ flawsL bw br name) := Hst.out.full HG.out.2.2
   obtain ⟨hf, hhf⟩ : ∃ h : FlawD → Bool, h = fun x => decide (x ∈ found) := ⟨_, rfl⟩
   have Hp2 : Hid (p = outR hf bw) := by show _ = _; rw [Hp.out, hhf]; exact (out_flaws HG.out.2.2 (fun x _ _ _ => by simpa using Hmem.out x)).symm
   have hmf := Hst.out.mf
   rw [← hhf] at hmf
   have HMF := Lib.hid hmf
   have HB := Lib.hid hB
   have u1 := v1.keep hK ⟨by omega, by omega⟩
   have z1 := u1.cell 0
   have l1 := u1.lt
   have hle := hB.size
   generalize wr = X at *
   clear Hst Hn hmf hhf Hmem hK u1 v1 v2 hcnt HK HU hrd H2 HO2 Hp hB
   go_wp2_with fail
   clear z1 l1
   go_loopw [21, 117] (fun c21 c117 wt => ∃ k : Nat, c117 = .int .i64 k ∧ k ≤ bw.length ∧ Own X.heap.size 60 3 RFlaw NoT wt c21 (outR hf (bw.take k)) ∧ Below X.heap.size X wt) (fun _ c117 _ => bw.length - (intOf c117).toNat)
   case atStart => exact ⟨0, rfl, Nat.zero_le _, Own.nil_ _ _ _ _ _ _, Below.here X⟩
   case round =>
    obtain ⟨k, rfl, hk, hO, hB⟩ := hrel
    by_cases hlt : k < bw.length
    ·--[TRND
     have hlt' : (k : Int) < (bw.length : Int) := by omega
     obtain ⟨g, o, es, rfl, hSg, hg, -, hre, hc⟩ := ((RSl.fair RType.fair).below H1.out (below_via HB.out hB HB.out.size)).at_ hlt
     have htm := List.getElem_mem hlt
     have hst := outR_take (h := hf) hlt
     obtain ⟨ta, hta⟩ : ∃ t, t = bw[k] := ⟨_, rfl⟩
     rw [← hta] at hre hst htm
     have Hst := Lib.hid hst
     have Hsz := Lib.hid (HO1.out ta htm).1
     obtain ⟨acc, hac⟩ : ∃ a, a = outR hf (bw.take k) := ⟨_, rfl⟩
     have hal : acc.length ≤ 360 := by
      rw [hac]
      refine Nat.le_trans (outR_len _ _) ?_
      rw [List.length_take]; omega
     rw [← hac] at hO Hst
     have Hal := Lib.hid hal
     obtain ⟨P1, p1, P2, p2, P3, p3, rfl, -, -, -⟩ := hre.parts
     have q0 : wr.cell? ⟨g, o + k * 5, none⟩ = some (.string ta.name) := hc.at_ 0 rfl
     have q1 : wr.cell? ⟨g, o + k * 5 + 1, none⟩ = some (.bool ta.enum) := hc.at_ 1 rfl
     have q2 : wr.cell? ⟨g, o + k * 5 + 2, none⟩ = some (.slice P1 ta.fields.length p1) := hc.at_ 2 rfl
     have q3 : wr.cell? ⟨g, o + k * 5 + 3, none⟩ = some (.slice P2 ta.gone.length p2) := hc.at_ 3 rfl
     have q4 : wr.cell? ⟨g, o + k * 5 + 4, none⟩ = some (.slice P3 ta.items.length p3) := hc.at_ 4 rfl
     have bT := Box.new wr 46 [.string ta.name, .bool ta.enum, .slice P1 ta.fields.length p1, .slice P2 ta.gone.length p2, .slice P3 ta.items.length p3]
     have hO2 := hO.alloc RFlaw.fair (.cells [.string ta.name, .bool ta.enum, .slice P1 ta.fields.length p1, .slice P2 ta.gone.length p2, .slice P3 ta.items.length p3].toArray 46)
     have hB2 := hB.alloc hB.size (.cells [.string ta.name, .bool ta.enum, .slice P1 ta.fields.length p1, .slice P2 ta.gone.length p2, .slice P3 ta.items.length p3].toArray 46)
     have hO3 := hO2
     rw [show acc = acc ++ outI hf ta.name (idsN 0) by rw [show outI hf ta.name (idsN 0) = [] from rfl, List.append_nil]] at hO3
     clear hSg hc hre hst hta htm hac hal hO hB hO2
     go_upto_region 33 with fail
     clear q0 q1 q2 q3 q4 hg
     generalize wr.heap.size = T at bT ⊢
     generalize (World.alloc wr _) = V3 at bT hO3 hB2 ⊢
     go_wp2_with fail
     go_loopw [21, 24] (fun c21 c24 wi => ∃ i : Nat, c24 = .int .i64 ((i : Int) + 1) ∧ i ≤ 30 ∧ Own X.heap.size 60 3 RFlaw NoT wi c21 (acc ++ outI hf ta.name (idsN i)) ∧ Box wi T 46 [.string ta.name, .bool ta.enum, .slice P1 ta.fields.length p1, .slice P2 ta.gone.length p2, .slice P3 ta.items.length p3] ∧ Below X.heap.size X wi) (fun _ c24 _ => 31 - (intOf c24).toNat)
     case atStart => exact ⟨0, rfl, Nat.zero_le _, hO3, bT, hB2⟩
     case round =>
      clear hO3 bT hB2
      obtain ⟨i, rfl, hi, hO, bT, hB⟩ := hrel
      by_cases hi30 : i < 30
      ·--[IRND
       have hi' : (i : Int) + 1 ≤ 30 := by omega
       obtain ⟨acc2, hac2⟩ : ∃ a, a = acc ++ outI hf ta.name (idsN i) := ⟨_, rfl⟩
       have hal2 : acc2.length ≤ 450 := by
        rw [hac2, List.length_append]
        have := Hal.out
        have := outI_len hf ta.name i
        omega
       have Hst2 : Hid (acc ++ outI hf ta.name (idsN (i + 1)) = acc2 ++ outY hf ta.name ((i : Int) + 1) (idsN 3)) := by show _ = _; rw [hac2, outI_step, List.append_assoc]
       rw [← hac2] at hO
       have Hal2 := Lib.hid hal2
       have hO3 := hO
       rw [show acc2 = acc2 ++ outY hf ta.name ((i : Int) + 1) (idsN 0) by rw [show outY hf ta.name ((i : Int) + 1) (idsN 0) = [] from rfl, List.append_nil]] at hO3
       clear hac2 hal2 hO
       go_wp2_with fail
       go_loopw [21, 25] (fun c21 c25 wj => ∃ j : Nat, c25 = .int .i64 ((j : Int) + 1) ∧ j ≤ 3 ∧ Own X.heap.size 60 3 RFlaw NoT wj c21 (acc2 ++ outY hf ta.name ((i : Int) + 1) (idsN j)) ∧ Box wj T 46 [.string ta.name, .bool ta.enum, .slice P1 ta.fields.length p1, .slice P2 ta.gone.length p2, .slice P3 ta.items.length p3] ∧ Below X.heap.size X wj) (fun _ c25 _ => 4 - (intOf c25).toNat)
       case atStart => exact ⟨0, rfl, Nat.zero_le _, hO3, bT, hB⟩
       case round =>
        clear hO3 bT hB
        obtain ⟨j, rfl, hj, hO, bT, hB⟩ := hrel
        by_cases hj3 : j < 3
        ·--[JRND
         have hj' : (j : Int) + 1 ≤ 3 := by omega
         obtain ⟨acc3, hac3⟩ : ∃ a, a = acc2 ++ outY hf ta.name ((i : Int) + 1) (idsN j) := ⟨_, rfl⟩
         have hal3 : acc3.length ≤ 460 := by
          rw [hac3, List.length_append]
          have := Hal2.out
          have := outY_len hf ta.name ((i : Int) + 1) j
          omega
         obtain ⟨hh, hhe⟩ : ∃ b, b = hf ⟨ta.name, (i : Int) + 1, (j : Int) + 1⟩ := ⟨_, rfl⟩
         have Hst3 : Hid (acc2 ++ outY hf ta.name ((i : Int) + 1) (idsN (j + 1)) = acc3 ++ (if hh = true then [⟨ta.name, (i : Int) + 1, (j : Int) + 1⟩] else [])) := by show _ = _; rw [hac3, outY_step, List.append_assoc, hhe]
         rw [← hac3] at hO
         have Hal3 := Lib.hid hal3
         have t0 : wr.cell? ⟨T, 0, none⟩ = some (.string ta.name) := bT.cell 0
         have tl := bT.lt
         have hlk := (HMF.out.below (hB.alloc hB.size (.cells #[.string ta.name, .int .i64 ((i : Int) + 1), .int .i64 ((j : Int) + 1)] 60))).look law_flaw map_flaw (x := (⟨ta.name, (i : Int) + 1, (j : Int) + 1⟩ : FlawD)) (key_of_flaw (f := ⟨ta.name, (i : Int) + 1, (j : Int) + 1⟩) (le_max Hsz.out) (show (Lit.int .i64 ((i : Int) + 1)).wf = true from WalkArith.wf_i64 (by omega)) (show (Lit.int .i64 ((j : Int) + 1)).wf = true from WalkArith.wf_i64 (by omega)))
         rw [← hhe] at hlk
         change (Instr.lookup _ (.map (some bf)) (.agg #[.string ta.name, .int .i64 ((i : Int) + 1), .int .i64 ((j : Int) + 1)]) false).run _ _ = _ at hlk
         have bZ : Box (wr.alloc (.cells [Value.string ta.name, .int .i64 ((i : Int) + 1), .int .i64 ((j : Int) + 1)].toArray 60)) wr.heap.size 60 [.string ta.name, .int .i64 ((i : Int) + 1), .int .i64 ((j : Int) + 1)] := Box.new wr _ _
         have bT2 := bT.alloc (.cells #[.string ta.name, .int .i64 ((i : Int) + 1), .int .i64 ((j : Int) + 1)] 60)
         have hO2 := hO.alloc RFlaw.fair (.cells #[.string ta.name, .int .i64 ((i : Int) + 1), .int .i64 ((j : Int) + 1)] 60)
         have hB2 := hB.alloc hB.size (.cells #[.string ta.name, .int .i64 ((i : Int) + 1), .int .i64 ((j : Int) + 1)] 60)
         clear hac3 hal3 hhe bT hO hB
         go_upto_region 40 with fail
         clear t0 tl
         generalize wr.heap.size = Z at bZ ⊢
         generalize (World.alloc wr _) = w9 at bZ bT2 hO2 hB2 hlk ⊢
         have e0 : w9.cell? ⟨Z, 0, none⟩ = some (.string ta.name) := bZ.cell 0
         have e1 : w9.cell? ⟨Z, 1, none⟩ = some (.int .i64 ((i : Int) + 1)) := bZ.cell 1
         have e2 : w9.cell? ⟨Z, 2, none⟩ = some (.int .i64 ((j : Int) + 1)) := bZ.cell 2
         have zl := bZ.lt
         cases hh with
         | false =>
          have hO4 := hO2
          rw [show acc3 = acc3 ++ (if false = true then [⟨ta.name, (i : Int) + 1, (j : Int) + 1⟩] else []) by simp, ← Hst3.out] at hO4
          clear hO2 bZ
          go_wp2_with fail
          go_roundw
          case rel => exact ⟨j + 1, by simp, by omega, hO4, bT2, hB2⟩
          case measure => simp [intOf]; omega
         | true =>
          obtain ⟨As, cs, rfl, -⟩ := hO2.form
          go_wp2_with (at_builtin; go_must (refine wl_append _ rfl (.tmp 137) (.tmp 139) rfl sl_flaws RFlaw.fair rfl rfl (hO2.alloc RFlaw.fair _) (Src.one (es := [.string ta.name, .int .i64 ((i : Int) + 1), .int .i64 ((j : Int) + 1)]) (y := (⟨ta.name, (i : Int) + 1, (j : Int) + 1⟩ : FlawD)) rfl (Ones.of_all rfl) rfl (Lies.newAt (by first | rfl | simp [World.setCell]))) (NoT.lt _) ?_ ?_ ?_))
          ·have := Hal3.out; go_light; (try simp only [List.length_cons, List.length_nil]); omega
          ·have := hB2.size; go_light; (try simp only [World.size_alloc] at *); omega
          ·intro v7 w7 hO7 hg7 hv7
           have hOa := hO2.alloc RFlaw.fair (.cells #[.string ta.name, .int .i64 ((i : Int) + 1), .int .i64 ((j : Int) + 1)] 60)
           have hB7 := below_grown (hB2.alloc hB2.size (.cells #[.string ta.name, .int .i64 ((i : Int) + 1), .int .i64 ((j : Int) + 1)] 60)) hg7 (hB2.alloc hB2.size (.cells #[.string ta.name, .int .i64 ((i : Int) + 1), .int .i64 ((j : Int) + 1)] 60)).size (fun g' h => (hO2.lt h).1)
           have bTa := bT2.alloc (.cells #[.string ta.name, .int .i64 ((i : Int) + 1), .int .i64 ((j : Int) + 1)] 60)
           have bT7 := bTa.grown hg7 (bTa.ne_own hOa (by decide))
           have hO8 : Own X.heap.size 60 3 RFlaw NoT w7 v7 (acc2 ++ outY hf ta.name ((i : Int) + 1) (idsN (j + 1))) := by rw [Hst3.out, if_pos trivial]; exact hO7
           clear hO2 hO7 bT2 hB2 hOa bTa hg7 hv7 e0 e1 e2 zl bZ hlk
           go_wp2_with fail
           go_roundw
           case rel => exact ⟨j + 1, by simp, by omega, hO8, bT7, hB7⟩
           case measure => simp [intOf]; omega
        ·--[JEND
         obtain rfl : j = 3 := by omega
         rw [← Hst2.out] at hO
         go_wp2_with fail
         go_roundw
         case rel => exact ⟨i + 1, by simp, by omega, hO, bT, hB⟩
         case measure => simp [intOf]; omega
      ·--[IEND
       obtain rfl : i = 30 := by omega
       rw [← Hst.out] at hO
       clear bT
       go_wp2_with fail
       go_roundw
       case rel => exact ⟨k + 1, by simp, by omega, hO, hB⟩
       case measure => simp [intOf]; omega
    ·--[TEND
     obtain rfl : k = bw.length := by omega
     rw [List.take_length, ← Hp2.out] at hO
     have hpl : p.length ≤ 360 := by
      rw [Hp2.out]
      refine Nat.le_trans (outR_len _ _) ?_
      omega
     have Hfin := Lib.hid (hO.read RFlaw.fair (S := New w) (by_ := 32) (fun g h _ => h.elim) (fun k hk => Nat.le_trans hle (hO.lt hk).1) (by omega))
     obtain ⟨As, cs, rfl, -⟩ := hO.form
     have hBw := below_via HB.out hB HB.out.size
     clear hO hB
     go_wp2_with fail
     go_ret
     exact ⟨_, rfl, Hfin.out, hBw⟩
end Go.Proofs.YtfidfakcbjoilaaGreatDoor
