/- The walk of the document's own goodType, of an enum. -/
import Derived.Test.YtihdnjnhhhafkaaGreatDoorRefA
import Derived.Test.YtihdnjnhhhafkaaGreatDoorBooks
set_option linter.all false
set_option maxRecDepth 100000
set_option maxHeartbeats 8000000
namespace Go.Proofs.YtihdnjnhhhafkaaGreatDoor
open Go.RowKit
theorem used_any (l : List ByteArray) (x : ByteArray) (w : World) (hM : MaxL w) (hx : namedF x = true) (hl : ∀ n ∈ l, namedF n = true) (hn : l.length ≤ 1048576) :
  Calls Tryz.prog 54 #[.string (usedS l), .string (⟨#[32]⟩ ++ x ++ ⟨#[32]⟩)] w (Pur w (.bool (hasS l x))) := by
 obtain ⟨m, hm⟩ := hM
 have hs := used_size (l := l) (fun y hy => (named_size (hl y hy)).2)
 have h := Tryz.strings_Contains (usedS l) (⟨#[32]⟩ ++ x ++ ⟨#[32]⟩) m w (by omega) hm
 have e2 : (⟨#[32]⟩ ++ x ++ ⟨#[32]⟩ : ByteArray).data.toList = 32 :: (bytes x ++ [32]) := by
  show bytes (⟨#[32]⟩ ++ x ++ ⟨#[32]⟩) = _
  rw [bytes_append, bytes_append]; rfl
 have e1 : (usedS l).data.toList = bytes (usedS l) := rfl
 rw [e2, e1, used_has hx hl] at h
 exact h
theorem goodE_any (S : Nat → Prop) (vb : Value) (b : BookD) (cs : List Value) (t : TypeD) (w : World) (hb0 : RSl 5 96 RType S w [vb] b) (ht : RType S w cs t) (hM : MaxL w) (hsz : ∀ x ∈ t.items, x.name.size ≤ 140737488351232) (hil : t.items.length ≤ 1048576) (hen : t.enum = true) :
  Calls Tryz.prog 40 #[.agg #[vb], .agg cs.toArray] w (Ret w (.bool (enumF t))) := by
 obtain ⟨A, cap, rfl, hlc, hlb⟩ := hb0.form
 obtain ⟨A1, k1, A2, k2, A3, k3, rfl, hf, hgn, hi⟩ := ht.parts
 obtain ⟨_, _, hff, hflc, hflb⟩ := hf.form
 obtain ⟨_, _, hgg, hglc, hglb⟩ := hgn.form
 have HI := Lib.hid hi
 have HM := Lib.hid hM
 have HSZ := Lib.hid hsz
 obtain ⟨r, hr⟩ : ∃ r, r = enumF t := ⟨_, rfl⟩
 rw [← hr]
 have Hr := Lib.hid hr
 have HEN := Lib.hid hen
 obtain ⟨x1, x2, x3⟩ := boxes2 w [.slice A b.length cap] [.string t.name, .bool t.enum, .slice A1 t.fields.length k1, .slice A2 t.gone.length k2, .slice A3 t.items.length k3] 24 38
 rw [hen] at x2 x3
 rw [hen]
 have c1 := x2.cell 1
 have c4 := x2.cell 4
 have l1 := x2.lt
 simp only [List.getElem?_cons_zero, List.getElem?_cons_succ] at c1 c4
 clear hb0 ht hf hgn hi hM hsz hr hff hgg hen x1
 go_enter Tryz.func40, Tryz.ntmps40
 go_wp2_with fail
 clear c1 c4 l1
 go_loopw [5, 6, 22] (fun u p i wr => ∃ (k : Nat) (U : ByteArray) (pn : Int), u = .string U ∧ p = .int .i64 pn ∧ i = .int .i64 k ∧ k ≤ t.items.length ∧ Hid (U = usedS ((t.items.take k).map (·.name))) ∧ Hid ((k = 0 → pn = -1099511627777) ∧ ∀ (h : 0 < k) (h' : k - 1 < t.items.length), pn = t.items[k - 1].n) ∧
   Hid (∀ j (h : j < t.items.length), j < k → EnumAt t j h) ∧ Box wr (w.heap.size + 1) 38 [.string t.name, .bool true, .slice A1 t.fields.length k1, .slice A2 t.gone.length k2, .slice A3 t.items.length k3] ∧ Below w.heap.size w wr) (fun _ _ i _ => t.items.length - (intOf i).toNat)
 case atStart => exact ⟨0, ⟨#[32]⟩, -1099511627777, rfl, rfl, rfl, by omega, rfl, (show _ ∧ _ from ⟨fun _ => rfl, fun h => absurd h (by omega)⟩), (fun j _ hj => absurd hj (by omega) : ∀ j (h : j < t.items.length), j < 0 → EnumAt t j h), x2, x3⟩
 case round =>
  clear x2 x3
  obtain ⟨k, U, pn, rfl, rfl, rfl, hk, hU, hp, he, hbx, hb⟩ := hrel
  have b4 : wr.cell? ⟨w.heap.size + 1, 4, none⟩ = some (.slice A3 t.items.length k3) := hbx.cell 4
  have hlx := hbx.lt
  by_cases hlt : k < t.items.length
  ·obtain ⟨g, o, rfl, hS, hg⟩ := HI.out.base (by omega)
   have hc := (HI.out.flat (enc := itemCells) hlt).keep (Keep.of_below hb) hS
   have hgw : g < wr.heap.size := Nat.lt_of_lt_of_le hg hb.size
   have hxs := HSZ.out t.items[k] (List.getElem_mem hlt)
   have hno0 : ¬ EnumAt t k hlt → r = false := fun h => by rw [Hr.out]; exact enum_no hlt h
   have hnm0 : ∀ y ∈ (t.items.take k).map (·.name), namedF y = true := by
    intro y hy
    obtain ⟨z, hz, rfl⟩ := List.mem_map.1 hy
    obtain ⟨j, hj, rfl⟩ := List.getElem_of_mem hz
    have hj' : j < k := by have := List.length_take_le k t.items; omega
    rw [List.getElem_take]
    exact (he.out j (by omega) hj').1
   have hll : ((t.items.take k).map (·.name)).length ≤ 1048576 := by rw [List.length_map, List.length_take]; omega
   have hus := used_size (l := (t.items.take k).map (·.name)) (fun y hy => (named_size (hnm0 y hy)).2)
   rw [← hU.out] at hus
   have hus2 : U.size ≤ 13631489 := by omega
   have huse := fun (W : World) (hm : MaxL W) (x : ByteArray) (hx : namedF x = true) => used_any _ x W hm hx hnm0 hll
   rw [← hU.out] at huse
   have hmem : ∀ x : ByteArray, hasS ((t.items.take k).map (·.name)) x = true ↔ ∃ j, ∃ (h : j < t.items.length), j < k ∧ t.items[j].name = x := by
    intro x
    rw [hasS_mem, List.mem_map]
    constructor
    ·rintro ⟨z, hz, rfl⟩
     obtain ⟨j, hj, rfl⟩ := List.getElem_of_mem hz
     have hj' : j < k := by have := List.length_take_le k t.items; omega
     exact ⟨j, by omega, hj', by rw [List.getElem_take]⟩
    ·rintro ⟨j, hj, hjk, rfl⟩
     exact ⟨t.items[j], List.mem_iff_getElem.2 ⟨j, by rw [List.length_take]; omega, by rw [List.getElem_take]⟩, rfl⟩
   have hst : usedS ((t.items.take (k + 1)).map (·.name)) = U ++ (t.items[k].name ++ ⟨#[32]⟩) := by
    rw [hU.out, used_step, List.take_succ_eq_append_getElem hlt, List.map_append]; rfl
   have hp1 := hp.out.1
   have hp2 := hp.out.2
   have hpn : (∀ (_ : 0 < k), t.items[k - 1].n = pn) := fun h => (hp2 h (by omega)).symm
   obtain ⟨hs, hhs⟩ : ∃ c, c = hasS ((t.items.take k).map (·.name)) t.items[k].name := ⟨_, rfl⟩
   have hmx := hmem t.items[k].name
   have Hhs := Lib.hid hhs
   unfold EnumAt at hno0
   obtain ⟨x, hxe⟩ : ∃ x, x = t.items[k] := ⟨_, rfl⟩
   have hhs2 : hs = hasS ((t.items.take k).map (·.name)) x.name := by rw [hxe]; exact hhs
   have hmx2 : hasS ((t.items.take k).map (·.name)) x.name = true ↔ ∃ j, ∃ (h : j < t.items.length), j < k ∧ t.items[j].name = x.name := hmem x.name
   rw [← hxe] at hc hxs hno0 hst
   clear hhs hmx Hhs hmem
   obtain ⟨xname, xn⟩ := x
   dsimp only at hxs hno0 hhs2 hmx2 hst
   have q0 : wr.cell? ⟨g, o + k * 2, none⟩ = some (.string xname) := hc.at_ 0 rfl
   have q1 : wr.cell? ⟨g, o + k * 2 + 1, none⟩ = some (.int .i64 xn) := hc.at_ 1 rfl
   have Hxe := Lib.hid hxe
   have hwa := hb.alloc hb.size (.cells #[.string xname, .int .i64 xn] 62)
   have hbt := hbx.alloc (.cells #[.string xname, .int .i64 xn] 62)
   have HMn := Lib.hid (HM.out.below hwa)
   have HNO := Lib.hid hno0
   have HST := Lib.hid hst
   have HPN := Lib.hid hpn
   have HP1 := Lib.hid hp1
   have HMX := Lib.hid hmx2
   have HHS := Lib.hid hhs2
   have HUSE := Lib.hid huse
   clear hc hxe hno0 hst hpn hp1 hp2 hmx2 hhs2 huse hus hnm0 hll hp hU hb b4 hbx
   have hwz : Below w.heap.size w (wr.alloc (.cells #[.string xname, .int .i64 xn] 62)) := hwa
   have bb := Box.new wr 62 [.string xname, .int .i64 xn]
   have zb : Box (wr.alloc (.cells #[.string xname, .int .i64 xn] 62)) wr.heap.size 62 [.string xname, .int .i64 xn] := bb
   by_cases hnm : namedF xname = true
   ·obtain ⟨hs1, hs12⟩ := named_size hnm
    by_cases hh : hs = true
    ·have Hno := Lib.hid (HNO.out (fun h => by
      obtain ⟨j, hj, hjk, he⟩ := HMX.out.1 (by rw [← HHS.out, hh])
      exact h.2.2.2.2 j hjk he.symm))
     subst hh
     go_wp2_with fail
     refine (isName_any xname _ (by omega) HMn.out).mono ?_
     rintro e w2 ⟨rfl, hb2⟩
     rw [hnm]
     have hw2 := below_via hwa hb2 hwa.size
     have zb2 := zb.below hb2 zb.lt
     have d0 := zb2.cell 0
     have ld := zb2.lt
     simp only [List.getElem?_cons_zero] at d0
     have HC := Lib.hid (HUSE.out w2 (HMn.out.below hb2) xname hnm)
     rw [← HHS.out] at HC
     clear zb zb2 hb2 q0 q1 bb
     go_wp2_with fail
     refine HC.out.mono ?_
     rintro e w3 ⟨rfl, rfl⟩
     go_wp2_with fail
     go_ret
     exact ⟨by first | (rw [Hno.out]; done) | (rw [Hno.out]; rfl), hw2⟩
    ·have hh' : hs = false := by simpa using hh
     subst hh'
     by_cases hle : xn ≤ pn
     ·have Hno := Lib.hid (HNO.out (fun h => by
       by_cases hk0 : k = 0
       ·have := HP1.out hk0; have := h.2.1; omega
       ·have := HPN.out (by omega); have := h.2.2.2.1 (by omega); omega))
      have e3 : decide (xn ≤ pn) = true := by simpa using hle
      go_wp2_with fail
      refine (isName_any xname _ (by omega) HMn.out).mono ?_
      rintro e w2 ⟨rfl, hb2⟩
      rw [hnm]
      have hw2 := below_via hwa hb2 hwa.size
      have zb2 := zb.below hb2 zb.lt
      have d0 := zb2.cell 0
      have d1 := zb2.cell 1
      have ld := zb2.lt
      simp only [List.getElem?_cons_zero, List.getElem?_cons_succ] at d0 d1
      have HC := Lib.hid (HUSE.out w2 (HMn.out.below hb2) xname hnm)
      rw [← HHS.out] at HC
      clear zb zb2 hb2 q0 q1 bb
      go_wp2_with fail
      refine HC.out.mono ?_
      rintro e w3 ⟨rfl, rfl⟩
      go_wp2_with fail
      all_goals first
       | (go_ret; exact ⟨by first | (rw [Hno.out]; done) | (rw [Hno.out]; rfl), hw2⟩)
       | (exfalso; omega)
     ·have e3 : decide (xn ≤ pn) = false := by simpa using hle
      by_cases hgt : 1099511627776 < xn
      ·have Hno := Lib.hid (HNO.out (fun h => by have := h.2.2.1; omega))
       have e4 : decide (xn > 1099511627776) = true := by simpa using hgt
       go_wp2_with fail
       refine (isName_any xname _ (by omega) HMn.out).mono ?_
       rintro e w2 ⟨rfl, hb2⟩
       rw [hnm]
       have hw2 := below_via hwa hb2 hwa.size
       have zb2 := zb.below hb2 zb.lt
       have d0 := zb2.cell 0
       have d1 := zb2.cell 1
       have ld := zb2.lt
       simp only [List.getElem?_cons_zero, List.getElem?_cons_succ] at d0 d1
       have HC := Lib.hid (HUSE.out w2 (HMn.out.below hb2) xname hnm)
       rw [← HHS.out] at HC
       clear zb zb2 hb2 q0 q1 bb
       go_wp2_with fail
       refine HC.out.mono ?_
       rintro e w3 ⟨rfl, rfl⟩
       go_wp2_with fail
       all_goals first
        | (go_ret; exact ⟨by first | (rw [Hno.out]; done) | (rw [Hno.out]; rfl), hw2⟩)
        | (exfalso; omega)
      ·have e4 : decide (xn > 1099511627776) = false := by simpa using hgt
       have hok : EnumAt t k hlt := by
        unfold EnumAt
        rw [← Hxe.out]
        dsimp only
        refine ⟨hnm, ?_, by omega, fun h => ?_, fun j hj heq => ?_⟩
        ·by_cases hk0 : k = 0
         ·have := HP1.out hk0; omega
         ·have h1 := HPN.out (by omega)
          have h2 := (he.out (k - 1) (by omega) (by omega)).2.1
          omega
        ·have := HPN.out h; omega
        ·have := HMX.out.2 ⟨j, by omega, hj, heq.symm⟩
         rw [← HHS.out] at this; cases this
       have HE2 : Hid (∀ j (h : j < t.items.length), j < k + 1 → EnumAt t j h) := by
        show ∀ j (h : j < t.items.length), j < k + 1 → EnumAt t j h
        intro j hj hjk
        by_cases hjk' : j < k
        ·exact he.out j hj hjk'
        ·have : j = k := by omega
         subst this; exact hok
       have HP2 : Hid ((k + 1 = 0 → xn = -1099511627777) ∧ ∀ (h : 0 < k + 1) (h' : k + 1 - 1 < t.items.length), xn = t.items[k + 1 - 1].n) := ⟨fun h => absurd h (by omega), fun _ h' => by
        show xn = t.items[k].n
        rw [← Hxe.out]⟩
       clear hok
       go_wp2_with fail
       refine (isName_any xname _ (by omega) HMn.out).mono ?_
       rintro e w2 ⟨rfl, hb2⟩
       rw [hnm]
       have hw2 := below_via hwa hb2 hwa.size
       have zb2 := zb.below hb2 zb.lt
       have hbt2 := hbt.below hb2 hbt.lt
       have d0 := zb2.cell 0
       have d1 := zb2.cell 1
       have ld := zb2.lt
       simp only [List.getElem?_cons_zero, List.getElem?_cons_succ] at d0 d1
       have HC := Lib.hid (HUSE.out w2 (HMn.out.below hb2) xname hnm)
       rw [← HHS.out] at HC
       clear zb zb2 hb2 q0 q1 bb
       go_wp2_with fail
       refine HC.out.mono ?_
       rintro e w3 ⟨rfl, rfl⟩
       go_wp2_with fail
       go_roundw
       case rel => exact ⟨k + 1, _, xn, rfl, rfl, by go_num, by omega, HST.out.symm, HP2, HE2, hbt2, hw2⟩
       case measure => simp [intOf]; omega
   ·have Hno := Lib.hid (HNO.out (fun h => hnm h.1))
    have hnf : namedF xname = false := by simpa using hnm
    go_wp2_with fail
    refine (isName_any xname _ (by omega) HMn.out).mono ?_
    rintro e w2 ⟨rfl, hb2⟩
    rw [hnf]
    have hw2 := below_via hwa hb2 hwa.size
    go_wp2_with fail
    go_ret
    exact ⟨by first | (rw [Hno.out]; done) | (rw [Hno.out]; rfl), hw2⟩
  ·have hend := enum_end (t := t) (fun j h => he.out j h (by omega))
   have Hend := Lib.hid (Hr.out.trans hend)
   have b2 : wr.cell? ⟨w.heap.size + 1, 2, none⟩ = some (.slice A1 t.fields.length k1) := hbx.cell 2
   have b3 : wr.cell? ⟨w.heap.size + 1, 3, none⟩ = some (.slice A2 t.gone.length k2) := hbx.cell 3
   clear he hend hbx hp hU
   go_wp2_with fail
   all_goals
    go_ret
    refine ⟨ret_b ?_, hb⟩
    rw [Hend.out]
    first | (simp; done) | (simp; omega) | (rw [Bool.eq_iff_iff]; simp [*]; done) | (rw [Bool.eq_iff_iff]; have : t.fields.length = 0 := (by simp [*]); simp only [beq_iff_eq, decide_eq_true_eq]; omega) | (symm; rw [decide_eq_false_iff_not]; omega) | (simp at *; omega)
end Go.Proofs.YtihdnjnhhhafkaaGreatDoor
