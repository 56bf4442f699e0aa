/- The walk of the document's own goodType, of a message. -/
import Derived.Test.YtihdnjnhhhafkaaGreatDoorRefGoodE
import Derived.Test.YtihdnjnhhhafkaaGreatDoorBookMessage
set_option linter.all false
set_option maxRecDepth 100000
set_option maxHeartbeats 8000000
namespace Go.Proofs.YtihdnjnhhhafkaaGreatDoor
open Go.RowKit
def G2At (t : TypeD) (i : Nat) (h : i < t.gone.length) : Prop := 1 ≤ t.gone[i] ∧ t.gone[i] ≤ 30 ∧ ∀ (_ : 0 < i), t.gone[i - 1] < t.gone[i]
theorem g2_no {b : BookD} {t : TypeD} {i : Nat} (h : i < t.gone.length) (hn : ¬ G2At t i h) : messageF b t = false := msg_no2 h fun hp => hn ⟨hp.2.1, hp.2.2.1, hp.2.2.2⟩
def F2At (b : BookD) (t : TypeD) (i : Nat) (h : i < t.fields.length) : Prop := FieldAt b t i h ∧ ∀ q (hq : q < t.gone.length), t.gone[q] ≠ t.fields[i].id
theorem fieldOf_there {t : TypeD} {n : Int} : (fieldOf t n).isSome = true ↔ ∃ i, ∃ (h : i < t.fields.length), t.fields[i].id = n := by
 unfold fieldOf
 rw [List.find?_isSome]
 constructor
 ·rintro ⟨f, hf, hn⟩
  obtain ⟨i, hi, rfl⟩ := List.getElem_of_mem hf
  exact ⟨i, hi, by simpa using hn⟩
 ·rintro ⟨i, hi, hn⟩
  exact ⟨t.fields[i], List.getElem_mem hi, by simpa using hn⟩
theorem f2_no {b : BookD} {t : TypeD} {i : Nat} (h : i < t.fields.length) (hn : ¬ F2At b t i h) : messageF b t = false := by
 by_cases hf : FieldAt b t i h
 ·have : ∃ q, ∃ (hq : q < t.gone.length), t.gone[q] = t.fields[i].id := by
   refine Classical.byContradiction fun hc => hn ⟨hf, fun q hq he => hc ⟨q, hq, he⟩⟩
  obtain ⟨q, hq, he⟩ := this
  refine msg_no2 hq fun hp => ?_
  have h1 := hp.1
  rw [he, fieldOf_there.2 ⟨i, h, rfl⟩] at h1
  cases h1
 ·exact msg_no3 h hf
theorem f2_yes {b : BookD} {t : TypeD} (h1 : t.fields.length ≤ 5 ∧ t.items.length = 0 ∧ t.gone.length ≤ 30) (h2 : ∀ i (h : i < t.gone.length), G2At t i h) (h3 : ∀ i (h : i < t.fields.length), F2At b t i h) : messageF b t = true := by
 refine msg_yes h1 (fun i h => ⟨?_, (h2 i h).1, (h2 i h).2.1, (h2 i h).2.2⟩) (fun i h => (h3 i h).1)
 cases hs : (fieldOf t t.gone[i]).isSome with
 | false => rfl
 | true =>
  obtain ⟨j, hj, he⟩ := fieldOf_there.1 hs
  exact absurd he.symm ((h3 j hj).2 i h)
theorem g2_step {t : TypeD} {k : Nat} (h : ∀ j (h : j < t.gone.length), j < k → G2At t j h) (hk : k < t.gone.length) (h' : G2At t k hk) : Hid (∀ j (h : j < t.gone.length), j < k + 1 → G2At t j h) := by
 show ∀ j (h : j < t.gone.length), j < k + 1 → G2At t j h
 intro j hj hjk
 by_cases hjk' : j < k
 ·exact h j hj hjk'
 ·have : j = k := by omega
  subst this
  exact h'
theorem f2_step {b : BookD} {t : TypeD} {k : Nat} (h : ∀ j (h : j < t.fields.length), j < k → F2At b t j h) (hk : k < t.fields.length) (h' : F2At b t k hk) : Hid (∀ j (h : j < t.fields.length), j < k + 1 → F2At b t j h) := by
 show ∀ j (h : j < t.fields.length), j < k + 1 → F2At b t j h
 intro j hj hjk
 by_cases hjk' : j < k
 ·exact h j hj hjk'
 ·have : j = k := by omega
  subst this
  exact h'
theorem goodM_any (S : Nat → Prop) (vb : Value) (b : BookD) (cs : List Value) (t : TypeD) (w : World) (hb0 : RSl 5 96 RType S w [vb] b) (ht : RType S w cs t) (hM : MaxL w) (hsz : ∀ x ∈ t.fields, x.name.size ≤ 140737488351232) (hen : t.enum = false) :
  Calls Tryz.prog 40 #[.agg #[vb], .agg cs.toArray] w (Ret w (.bool (messageF b t))) := by
 obtain ⟨A, cap, rfl, hlc, hlb⟩ := hb0.form
 obtain ⟨A1, k1, A2, k2, A3, k3, rfl, hf, hgn, hi⟩ := ht.parts
 obtain ⟨Ai, ki, hii, hilc, hilb⟩ := hi.form
 obtain ⟨_, _, hff, hflc, hflb⟩ := hf.form
 obtain ⟨_, _, hgg, hglc, hglb⟩ := hgn.form
 have HB := Lib.hid hb0
 have HF := Lib.hid hf
 have HG := Lib.hid hgn
 have HM := Lib.hid hM
 have HSZ := Lib.hid hsz
 obtain ⟨r, hr⟩ : ∃ r, r = messageF b t := ⟨_, rfl⟩
 rw [← hr]
 have Hr := Lib.hid hr
 have HEN := Lib.hid hen
 obtain ⟨x1, x2, x3⟩ := boxes2 w [.slice A b.length cap] [.string t.name, .bool t.enum, .slice A1 t.fields.length k1, .slice A2 t.gone.length k2, .slice A3 t.items.length k3] 24 38
 rw [hen] at x1 x2 x3
 rw [hen]
 have X1 := Lib.hid x1
 have X2 := Lib.hid x2
 have X3 := Lib.hid x3
 have c1 := x2.cell 1
 have c2 := x2.cell 2
 have c3 := x2.cell 3
 have c4 := x2.cell 4
 have l1 := x2.lt
 simp only [List.getElem?_cons_zero, List.getElem?_cons_succ] at c1 c2 c3 c4
 clear hb0 ht hf hgn hi hM hsz hr hff hgg hii hen x1 x2 x3
 go_enter Tryz.func40, Tryz.ntmps40
 by_cases h1 : t.fields.length ≤ 5 ∧ t.items.length = 0 ∧ t.gone.length ≤ 30
 ·have H1 := Lib.hid h1
  obtain ⟨h11, h12, h13⟩ := h1
  have e1 : ((t.items.length : Int) != 0) = false := by simp [h12]
  have e2 : decide ((t.fields.length : Int) > 5) = false := by simp; omega
  have e3 : decide ((t.gone.length : Int) > 30) = false := by simp; omega
  clear h12
  go_wp2_with fail
  clear c1 c2 c3 c4 l1 e1 e2 e3
  go_loopw [6, 98] (fun p i wr => ∃ (k : Nat) (pn : Int), p = .int .i64 pn ∧ i = .int .i64 k ∧ k ≤ t.gone.length ∧ Hid (∀ j (h : j < t.gone.length), j < k → G2At t j h) ∧ Hid ((k = 0 → pn = 0) ∧ ∀ (h : 0 < k) (h' : k - 1 < t.gone.length), pn = t.gone[k - 1]) ∧ Box wr w.heap.size 24 [.slice A b.length cap] ∧ Box wr (w.heap.size + 1) 38 [.string t.name, .bool false, .slice A1 t.fields.length k1, .slice A2 t.gone.length k2, .slice A3 t.items.length k3] ∧ Below w.heap.size w wr) (fun _ i _ => t.gone.length - (intOf i).toNat)
  case atStart => exact ⟨0, 0, rfl, rfl, by omega, (fun j _ hj => absurd hj (by omega) : ∀ j (h : j < t.gone.length), j < 0 → G2At t j h), (show _ ∧ _ from ⟨fun _ => rfl, fun h => absurd h (by omega)⟩), X1.out, X2.out, X3.out⟩
  case round =>
   obtain ⟨k, pn, rfl, rfl, hk, he, hp, hbk, htp, hb⟩ := hrel
   by_cases hlt : k < t.gone.length
   ·obtain ⟨g, o, rfl, hS, hg⟩ := HG.out.base (by omega)
    have hc := (HG.out.flat (enc := fun x : Int => [.int .i64 x]) hlt).keep (Keep.of_below hb) hS
    have hno0 : ¬ G2At t k hlt → r = false := fun h => by rw [Hr.out]; exact g2_no hlt h
    have hpn1 : k = 0 → pn = 0 := hp.out.1
    have hpn2 : ∀ (h : 0 < k), t.gone[k - 1] = pn := fun h => (hp.out.2 h (by omega)).symm
    have hge : ∀ (h : 0 < k), 1 ≤ t.gone[k - 1] := fun h => (he.out (k - 1) (by omega) (by omega)).1
    unfold G2At at hno0
    obtain ⟨n, hxe⟩ : ∃ x, x = t.gone[k] := ⟨_, rfl⟩
    rw [← hxe] at hc hno0
    have q0 : wr.cell? ⟨g, o + k, none⟩ = some (.int .i64 n) := by have := hc.at_ 0 rfl; simpa using this
    have hgl : g < wr.heap.size := Nat.lt_of_lt_of_le hg hb.size
    have hpn0 : 0 ≤ pn := by
     by_cases hk0 : k = 0
     ·rw [hpn1 hk0]; omega
     ·have h1 := hge (by omega); rw [hpn2 (by omega)] at h1; omega
    by_cases hle : n ≤ pn
    ·have Hno := Lib.hid (hno0 (fun h => by
      by_cases hk0 : k = 0
      ·have h1 := hpn1 hk0; have h2 := h.1; omega
      ·have h1 := hpn2 (by omega); have h2 := h.2.2 (by omega); omega))
     have e1 : decide (n ≤ pn) = true := by simpa using hle
     clear hno0 hpn1 hpn2 hge hc hxe he hp hbk htp
     go_wp2_with fail
     all_goals first
      | (go_ret; exact ⟨by first | (rw [Hno.out]; done) | (rw [Hno.out]; rfl), hb⟩)
      | (exfalso; omega)
    ·have e1 : decide (n ≤ pn) = false := by simpa using hle
     by_cases hgt : 30 < n
     ·have Hno := Lib.hid (hno0 (fun h => by have h2 := h.2.1; omega))
      have e2 : decide (n > 30) = true := by simpa using hgt
      clear hno0 hpn1 hpn2 hge hc hxe he hp hbk htp
      go_wp2_with fail
      all_goals first
       | (go_ret; exact ⟨by first | (rw [Hno.out]; done) | (rw [Hno.out]; rfl), hb⟩)
       | (exfalso; omega)
     ·have e2 : decide (n > 30) = false := by simpa using hgt
      have Hok := Lib.hid (show G2At t k hlt from by
       unfold G2At
       rw [← hxe]
       exact ⟨by omega, by omega, fun h => by rw [hpn2 h]; omega⟩)
      have HP2 : Hid ((k + 1 = 0 → n = 0) ∧ ∀ (h : 0 < k + 1) (h' : k + 1 - 1 < t.gone.length), n = t.gone[k + 1 - 1]) := ⟨fun h => absurd h (by omega), fun _ h' => hxe⟩
      clear hno0 hpn1 hpn2 hge hc hxe hp
      go_wp2_with fail
      all_goals first
       | (exfalso; omega)
       | skip
      go_roundw
      case rel => exact ⟨k + 1, n, rfl, by go_num, by omega, g2_step he.out hlt Hok.out, HP2, hbk, htp, hb⟩
      case measure => simp [intOf]; omega
   ·have HGone := Lib.hid (fun j (h : j < t.gone.length) => he.out j h (by omega))
    clear he hp
    have b2 : wr.cell? ⟨w.heap.size + 1, 2, none⟩ = some (.slice A1 t.fields.length k1) := htp.cell 2
    have hltt : w.heap.size + 1 < wr.heap.size := htp.lt
    obtain ⟨wo, rfl⟩ : ∃ wo : World, wo = wr := ⟨_, rfl⟩
    go_wp2_with fail
    clear b2 hltt
    go_loopw [5, 6, 114] (fun u p i wr => ∃ (k : Nat) (U : ByteArray) (pn : Int), u = .string U ∧ p = .int .i64 pn ∧ i = .int .i64 k ∧ k ≤ t.fields.length ∧ Hid (U = usedS ((t.fields.take k).map (·.name))) ∧ Hid ((k = 0 → pn = 0) ∧ ∀ (h : 0 < k) (h' : k - 1 < t.fields.length), pn = t.fields[k - 1].id) ∧
     Hid (∀ j (h : j < t.fields.length), j < k → F2At b t j h) ∧ Box wr w.heap.size 24 [.slice A b.length cap] ∧ Box wr (w.heap.size + 1) 38 [.string t.name, .bool false, .slice A1 t.fields.length k1, .slice A2 t.gone.length k2, .slice A3 t.items.length k3] ∧ Below w.heap.size w wr) (fun _ _ i _ => t.fields.length - (intOf i).toNat)
    case atStart => exact ⟨0, ⟨#[32]⟩, 0, rfl, rfl, rfl, by omega, rfl, (show _ ∧ _ from ⟨fun _ => rfl, fun h => absurd h (by omega)⟩), (fun j _ hj => absurd hj (by omega) : ∀ j (h : j < t.fields.length), j < 0 → F2At b t j h), hbk, htp, hb⟩
    case round =>
     clear hbk htp hb hlt hk
     obtain ⟨k, U, pn, rfl, rfl, rfl, hk, hU, hp, He, hbk, htp, hb⟩ := hrel
     by_cases hlt : k < t.fields.length
     ·obtain ⟨g, o, rfl, hS, hg⟩ := HF.out.base (by omega)
      have hc := (HF.out.flat (enc := fieldCells) hlt).keep (Keep.of_below hb) hS
      have hgw : g < wr.heap.size := Nat.lt_of_lt_of_le hg hb.size
      have hxs := HSZ.out t.fields[k] (List.getElem_mem hlt)
      have hno0 : ¬ F2At b t k hlt → r = false := fun h => by rw [Hr.out]; exact f2_no hlt h
      have hnm0 : ∀ y ∈ (t.fields.take k).map (·.name), namedF y = true := by
       intro y hy
       obtain ⟨z, hz, rfl⟩ := List.mem_map.1 hy
       obtain ⟨j, hj, rfl⟩ := List.getElem_of_mem hz
       have hj' : j < k := by have := List.length_take_le k t.fields; omega
       rw [List.getElem_take]
       exact (He.out j (by omega) hj').1.1.1
      have hll : ((t.fields.take k).map (·.name)).length ≤ 1048576 := by rw [List.length_map, List.length_take]; omega
      have hus := used_size (l := (t.fields.take k).map (·.name)) (fun y hy => (named_size (hnm0 y hy)).2)
      rw [← hU.out] at hus
      have hus2 : U.size ≤ 13631489 := by omega
      have huse := fun (W : World) (hm : MaxL W) (x : ByteArray) (hx : namedF x = true) => used_any _ x W hm hx hnm0 hll
      rw [← hU.out] at huse
      have hst : usedS ((t.fields.take (k + 1)).map (·.name)) = U ++ (t.fields[k].name ++ ⟨#[32]⟩) := by
       rw [hU.out, used_step, List.take_succ_eq_append_getElem hlt, List.map_append]; rfl
      have hp1 : k = 0 → pn = 0 := hp.out.1
      have hpn : (∀ (_ : 0 < k), t.fields[k - 1].id = pn) := fun h => (hp.out.2 h (by omega)).symm
      have hpn0 : 0 ≤ pn := by
       by_cases hk0 : k = 0
       ·rw [hp1 hk0]; omega
       ·have h1 := (He.out (k - 1) (by omega) (by omega)).1.1.2.1; rw [hpn (by omega)] at h1; omega
      have hmem : ∀ x : ByteArray, hasS ((t.fields.take k).map (·.name)) x = true ↔ ∃ j, ∃ (h : j < t.fields.length), j < k ∧ t.fields[j].name = x := by
       intro x
       rw [hasS_mem, List.mem_map]
       constructor
       ·rintro ⟨z, hz, rfl⟩
        obtain ⟨j, hj, rfl⟩ := List.getElem_of_mem hz
        have hj' : j < k := by have := List.length_take_le k t.fields; omega
        exact ⟨j, by omega, hj', by rw [List.getElem_take]⟩
       ·rintro ⟨j, hj, hjk, rfl⟩
        exact ⟨t.fields[j], List.mem_iff_getElem.2 ⟨j, by rw [List.length_take]; omega, by rw [List.getElem_take]⟩, rfl⟩
      have hmx := hmem t.fields[k].name
      obtain ⟨hs, hhs⟩ : ∃ c, c = hasS ((t.fields.take k).map (·.name)) t.fields[k].name := ⟨_, rfl⟩
      unfold F2At FieldAt at hno0
      obtain ⟨f0, hxe⟩ : ∃ x, x = t.fields[k] := ⟨_, rfl⟩
      rw [← hxe] at hc hxs hno0 hst hmx hhs
      obtain ⟨⟨fid, fname, ftype, fkind, frule⟩, hf0⟩ : ∃ x, x = f0 := ⟨_, rfl⟩
      subst hf0
      dsimp only at hxs hst hmx hhs
      have q0 : wr.cell? ⟨g, o + k * 5, none⟩ = some (.int .i64 fid) := hc.at_ 0 rfl
      have q1 : wr.cell? ⟨g, o + k * 5 + 1, none⟩ = some (.string fname) := hc.at_ 1 rfl
      have q2 : wr.cell? ⟨g, o + k * 5 + 2, none⟩ = some (.string ftype) := hc.at_ 2 rfl
      have q3 : wr.cell? ⟨g, o + k * 5 + 3, none⟩ = some (.int .i64 fkind) := hc.at_ 3 rfl
      have q4 : wr.cell? ⟨g, o + k * 5 + 4, none⟩ = some (.int .i64 frule) := hc.at_ 4 rfl
      have Hxe := Lib.hid hxe
      have hwa := hb.alloc hb.size (.cells #[.int .i64 fid, .string fname, .string ftype, .int .i64 fkind, .int .i64 frule] 43)
      have hbkn := hbk.alloc (.cells #[.int .i64 fid, .string fname, .string ftype, .int .i64 fkind, .int .i64 frule] 43)
      have htpn := htp.alloc (.cells #[.int .i64 fid, .string fname, .string ftype, .int .i64 fkind, .int .i64 frule] 43)
      have HMn := Lib.hid (HM.out.below hwa)
      have HNO := Lib.hid hno0
      have HST := Lib.hid hst
      have HPN := Lib.hid hpn
      have HP1 := Lib.hid hp1
      have HMX := Lib.hid hmx
      have HHS := Lib.hid hhs
      have HUSE := Lib.hid huse
      clear hc hxe hno0 hst hpn hp1 hmx hmem hhs huse hus hnm0 hll hp hU hb hbk htp
      have zb : Box (wr.alloc (.cells #[.int .i64 fid, .string fname, .string ftype, .int .i64 fkind, .int .i64 frule] 43)) wr.heap.size 43 [.int .i64 fid, .string fname, .string ftype, .int .i64 fkind, .int .i64 frule] := Box.new wr _ _
      by_cases hle : fid ≤ pn
      ·have Hno := Lib.hid (HNO.out (fun h => by
        by_cases hk0 : k = 0
        ·have h1 := HP1.out hk0; have h2 := h.1.1.2.1; dsimp only at h2; omega
        ·have h1 := HPN.out (by omega); have h2 := h.1.2.1 (by omega); dsimp only at h2; omega))
       have e1 : decide (fid ≤ pn) = true := by simpa using hle
       clear zb hbkn htpn
       go_wp2_with fail
       all_goals first
        | (go_ret; exact ⟨by first | (rw [Hno.out]; done) | (rw [Hno.out]; rfl), hwa⟩)
        | (exfalso; omega)
      ·have e1 : decide (fid ≤ pn) = false := by simpa using hle
       by_cases hgt : 30 < fid
       ·have Hno := Lib.hid (HNO.out (fun h => by have h2 := h.1.1.2.2.1; dsimp only at h2; omega))
        have e2 : decide (fid > 30) = true := by simpa using hgt
        clear zb hbkn htpn
        go_wp2_with fail
        all_goals first
         | (go_ret; exact ⟨by first | (rw [Hno.out]; done) | (rw [Hno.out]; rfl), hwa⟩)
         | (exfalso; omega)
       ·have e2 : decide (fid > 30) = false := by simpa using hgt
        by_cases hnm : namedF fname = true
        ·obtain ⟨hs1, hs12⟩ := named_size hnm
         by_cases hh : hs = true
         ·have Hno := Lib.hid (HNO.out (fun h => by
           obtain ⟨j, hj, hjk, he⟩ := HMX.out.1 (by rw [← HHS.out, hh])
           exact h.1.2.2 j hjk he.symm))
          subst hh
          go_wp2_with fail
          refine (isName_any fname _ (by omega) HMn.out).mono ?_
          rintro e w2 ⟨rfl, hb2⟩
          have hw2 := below_via hwa hb2 hwa.size
          have zb2 := zb.below hb2 zb.lt
          have d0 := zb2.cell 0
          have d1 := zb2.cell 1
          have d4 := zb2.cell 4
          have ld := zb2.lt
          simp only [List.getElem?_cons_zero, List.getElem?_cons_succ] at d0 d1 d4
          rw [hnm]
          have HC := Lib.hid (HUSE.out w2 (HMn.out.below hb2) fname hnm)
          rw [← HHS.out] at HC
          go_wp2_with fail
          refine HC.out.mono ?_
          rintro e w3 ⟨rfl, rfl⟩
          clear zb zb2 hb2 q0 q1 q2 q3 q4 hbkn htpn
          go_wp2_with fail
          all_goals first
           | (go_ret; exact ⟨by first | (rw [Hno.out]; done) | (rw [Hno.out]; rfl), hw2⟩)
           | (exfalso; omega)
         ·have hh' : hs = false := by simpa using hh
          subst hh'
          by_cases hr1 : frule < 1
          ·have Hno := Lib.hid (HNO.out (fun h => by have h2 := h.1.1.2.2.2.2.2.1; dsimp only at h2; omega))
           have e3 : decide (frule < 1) = true := by simpa using hr1
           go_wp2_with fail
           refine (isName_any fname _ (by omega) HMn.out).mono ?_
           rintro e w2 ⟨rfl, hb2⟩
           have hw2 := below_via hwa hb2 hwa.size
           have zb2 := zb.below hb2 zb.lt
           have d0 := zb2.cell 0
           have d1 := zb2.cell 1
           have d4 := zb2.cell 4
           have ld := zb2.lt
           simp only [List.getElem?_cons_zero, List.getElem?_cons_succ] at d0 d1 d4
           rw [hnm]
           have HC := Lib.hid (HUSE.out w2 (HMn.out.below hb2) fname hnm)
           rw [← HHS.out] at HC
           go_wp2_with fail
           refine HC.out.mono ?_
           rintro e w3 ⟨rfl, rfl⟩
           clear zb zb2 hb2 q0 q1 q2 q3 q4 hbkn htpn
           go_wp2_with fail
           all_goals first
            | (go_ret; exact ⟨by first | (rw [Hno.out]; done) | (rw [Hno.out]; rfl), hw2⟩)
            | (exfalso; omega)
          ·have e3 : decide (frule < 1) = false := by simpa using hr1
           by_cases hr3 : 3 < frule
           ·have Hno := Lib.hid (HNO.out (fun h => by have h2 := h.1.1.2.2.2.2.2.2.1; dsimp only at h2; omega))
            have e4 : decide (frule > 3) = true := by simpa using hr3
            go_wp2_with fail
            refine (isName_any fname _ (by omega) HMn.out).mono ?_
            rintro e w2 ⟨rfl, hb2⟩
            have hw2 := below_via hwa hb2 hwa.size
            have zb2 := zb.below hb2 zb.lt
            have d0 := zb2.cell 0
            have d1 := zb2.cell 1
            have d4 := zb2.cell 4
            have ld := zb2.lt
            simp only [List.getElem?_cons_zero, List.getElem?_cons_succ] at d0 d1 d4
            rw [hnm]
            have HC := Lib.hid (HUSE.out w2 (HMn.out.below hb2) fname hnm)
            rw [← HHS.out] at HC
            go_wp2_with fail
            refine HC.out.mono ?_
            rintro e w3 ⟨rfl, rfl⟩
            clear zb zb2 hb2 q0 q1 q2 q3 q4 hbkn htpn
            go_wp2_with fail
            all_goals first
             | (go_ret; exact ⟨by first | (rw [Hno.out]; done) | (rw [Hno.out]; rfl), hw2⟩)
             | (exfalso; omega)
           ·have e4 : decide (frule > 3) = false := by simpa using hr3
            have Hnm := Lib.hid hnm
            go_wp2_with fail
            refine (isName_any fname _ (by omega) HMn.out).mono ?_
            rintro e w2 ⟨rfl, hb2⟩
            have hw2 := below_via hwa hb2 hwa.size
            have zb2 := zb.below hb2 zb.lt
            have d0 := zb2.cell 0
            have d1 := zb2.cell 1
            have d4 := zb2.cell 4
            have ld := zb2.lt
            simp only [List.getElem?_cons_zero, List.getElem?_cons_succ] at d0 d1 d4
            rw [hnm]
            have HC := Lib.hid (HUSE.out w2 (HMn.out.below hb2) fname hnm)
            rw [← HHS.out] at HC
            go_wp2_with fail
            refine HC.out.mono ?_
            rintro e w3 ⟨rfl, rfl⟩
            have hbk2 := hbkn.below hb2 hbkn.lt
            have htp2 := htpn.below hb2 htpn.lt
            have t3 := htp2.cell 3
            have lt3 := htp2.lt
            simp only [List.getElem?_cons_zero, List.getElem?_cons_succ] at t3
            clear zb hb2 q0 q1 q2 q3 q4 hbkn htpn hwa HC HUSE
            clear HMn
            generalize hX : wr.heap.size = X at *
            go_wp2_with fail
            go_loopw [161] (fun i wi => ∃ j : Nat, i = .int .i64 j ∧ j ≤ t.gone.length ∧ Hid (∀ q (h : q < t.gone.length), q < j → t.gone[q] ≠ fid) ∧ w3 = wi) (fun i _ => t.gone.length - (intOf i).toNat)
            case atStart => exact ⟨0, rfl, by omega, (fun q _ hq => absurd hq (by omega) : ∀ q (h : q < t.gone.length), q < 0 → t.gone[q] ≠ fid), rfl⟩
            case round =>
             obtain ⟨j, rfl, hj, hd, rfl⟩ := hrel
             by_cases hjl : j < t.gone.length
             ·obtain ⟨g', o', rfl, hS', hg'⟩ := HG.out.base (by omega)
              have hcj := (HG.out.flat (enc := fun x : Int => [.int .i64 x]) hjl).keep (Keep.of_below hw2) hS'
              obtain ⟨n, hn⟩ : ∃ x, x = t.gone[j] := ⟨_, rfl⟩
              rw [← hn] at hcj
              have p0 : w3.cell? ⟨g', o' + j, none⟩ = some (.int .i64 n) := by have := hcj.at_ 0 rfl; simpa using this
              have hgl' : g' < w3.heap.size := Nat.lt_of_lt_of_le hg' hw2.size
              clear t3 lt3 d1 d4
              by_cases hnf : n = fid
              ·have Hno := Lib.hid (HNO.out (fun h => by have := h.2 j hjl; rw [← hn] at this; exact this hnf))
               subst hnf
               clear hn hcj
               go_wp2_with fail
               all_goals first
                | (go_ret; exact ⟨by first | (rw [Hno.out]; done) | (rw [Hno.out]; rfl), hw2⟩)
                | (exfalso; omega)
              ·have hne : (n == fid) = false := by simpa using hnf
               have Hd2 : Hid (∀ q (h : q < t.gone.length), q < j + 1 → t.gone[q] ≠ fid) := by
                show ∀ q (h : q < t.gone.length), q < j + 1 → t.gone[q] ≠ fid
                intro q hq hqj
                by_cases hqj' : q < j
                ·exact hd.out q hq hqj'
                ·have : q = j := by omega
                 subst this; rw [← hn]; exact hnf
               clear hn hcj hd
               go_wp2_with fail
               go_roundw
               case rel => exact ⟨j + 1, by go_num, by omega, Hd2, by first | trivial | rfl⟩
               case measure => simp [intOf]; omega
             ·have hgn2 : ∀ q (h : q < t.gone.length), t.gone[q] ≠ fid := fun q h => hd.out q h (by omega)
              have Hgn2 := Lib.hid hgn2
              have m0 := hbk2.cell 0
              have m1 := hbk2.lt
              have d2 := zb2.cell 2
              have d3 := zb2.cell 3
              simp only [List.getElem?_cons_zero, List.getElem?_cons_succ] at m0 d2 d3
              clear hd hgn2 t3 lt3
              go_wp2_with fail
              refine (typeOf_any S _ b ftype _ ((RSl.fair RType.fair).below HB.out hw2)).mono ?_
              rintro e w5 ⟨cs3, rfl, hr3', hb3⟩
              obtain ⟨B1, l1, B2, l2, B3, l3, rfl, -, -, -⟩ := hr3'.parts
              have hw3 := below_via hw2 hb3 hw2.size
              have zb3 := zb2.below hb3 zb2.lt
              have hbk3 := hbk2.below hb3 hbk2.lt
              have htp3 := htp2.below hb3 htp2.lt
              obtain ⟨ty, hty⟩ : ∃ ty, ty = (findT b ftype).getD TypeD.zero := ⟨_, rfl⟩
              rw [← hty]
              obtain ⟨ok, hok⟩ : ∃ ok, ok = (findT b ftype).isSome := ⟨_, rfl⟩
              rw [← hok]
              have Hkp : Hid (kindP b ⟨fid, fname, ftype, fkind, frule⟩ ↔ (fkind < 4 → ftype.size = 0) ∧ (4 ≤ fkind → ok = true ∧ ty.enum = decide (fkind = 4))) := by
               show _ ↔ _
               rw [kindP, hty, hok]
              have Hok : Hid (1 ≤ fkind → fkind ≤ 5 → kindP b ⟨fid, fname, ftype, fkind, frule⟩ → F2At b t k hlt) := by
               show _ → _
               intro h1 h5 hkp
               unfold F2At FieldAt
               rw [← Hxe.out]
               dsimp only
               refine ⟨⟨⟨Hnm.out, by dsimp only; omega, by dsimp only; omega, h1, h5, by dsimp only; omega, by dsimp only; omega, hkp⟩, fun h => ?_, fun j hj heq => ?_⟩, Hgn2.out⟩
               ·rw [HPN.out h]; omega
               ·have := HMX.out.2 ⟨j, by omega, hj, heq.symm⟩
                rw [← HHS.out] at this; cases this
              have Hbad : Hid (¬ (1 ≤ fkind ∧ fkind ≤ 5 ∧ kindP b ⟨fid, fname, ftype, fkind, frule⟩) → r = false) := by
               show _ → _
               exact fun h => HNO.out fun hh => h ⟨hh.1.1.2.2.2.1, hh.1.1.2.2.2.2.1, hh.1.1.2.2.2.2.2.2.2⟩
              obtain ⟨tyn, tye, tyf, tyg, tyi⟩ := ty
              dsimp only at Hkp
              have y0 := zb3.cell 2
              have y1 := zb3.cell 3
              have yl := zb3.lt
              simp only [List.getElem?_cons_zero, List.getElem?_cons_succ] at y0 y1
              have hwz := hw3.alloc hw3.size (.cells #[.string tyn, .bool tye, .slice B1 tyf.length l1, .slice B2 tyg.length l2, .slice B3 tyi.length l3] 38)
              have hbk4 := hbk3.alloc (.cells #[.string tyn, .bool tye, .slice B1 tyf.length l1, .slice B2 tyg.length l2, .slice B3 tyi.length l3] 38)
              have htp4 := htp3.alloc (.cells #[.string tyn, .bool tye, .slice B1 tyf.length l1, .slice B2 tyg.length l2, .slice B3 tyi.length l3] 38)
              have HP2 : Hid ((k + 1 = 0 → fid = 0) ∧ ∀ (h : 0 < k + 1) (h' : k + 1 - 1 < t.fields.length), fid = t.fields[k + 1 - 1].id) := ⟨fun h => absurd h (by omega), fun _ h' => by
               show fid = t.fields[k].id
               rw [← Hxe.out]⟩
              clear hty hok m0 m1 d0 d1 d2 d3 d4 ld zb2 zb3 hbk2 htp2 hbk3 htp3 hr3' HNO HMX HHS HPN HP1 Hgn2
              by_cases hk123 : fkind = 1 ∨ fkind = 2 ∨ fkind = 3
              ·by_cases hts : ftype.size = 0
               ·have Hf := Lib.hid (Hok.out (by omega) (by omega) (Hkp.out.2 ⟨fun _ => hts, fun h => absurd h (by omega)⟩))
                have hte : (ftype.toList == (⟨#[]⟩ : ByteArray).toList) = true := by rw [show ftype = ⟨#[]⟩ from ba_size0' hts]; exact beq_self_eq_true _
                have hft : ftype = ⟨#[]⟩ := ba_size0' hts
                clear hts Hok Hbad Hkp
                subst hft
                rcases hk123 with rfl | rfl | rfl
                ·go_wp2_with fail
                 go_roundw
                 case rel => exact ⟨k + 1, _, fid, rfl, rfl, by go_num, by omega, HST.out.symm, HP2, f2_step He.out hlt Hf.out, hbk4, htp4, hwz⟩
                 case measure => simp [intOf]; omega
                ·go_wp2_with fail
                 go_roundw
                 case rel => exact ⟨k + 1, _, fid, rfl, rfl, by go_num, by omega, HST.out.symm, HP2, f2_step He.out hlt Hf.out, hbk4, htp4, hwz⟩
                 case measure => simp [intOf]; omega
                ·go_wp2_with fail
                 go_roundw
                 case rel => exact ⟨k + 1, _, fid, rfl, rfl, by go_num, by omega, HST.out.symm, HP2, f2_step He.out hlt Hf.out, hbk4, htp4, hwz⟩
                 case measure => simp [intOf]; omega
               ·have Hno := Lib.hid (Hbad.out (fun h => hts ((Hkp.out.1 h.2.2).1 (by omega))))
                have hte : (ftype.toList == []) = false := by
                 cases hq : ftype.toList with
                 | nil => exact absurd (by rw [ByteArray.toList_eq] at hq; exact congrArg List.length hq) hts
                 | cons a l => rfl
                have hemp : ftype.toList.isEmpty = false := by
                 cases hq : ftype.toList with
                 | nil => exact absurd (by rw [ByteArray.toList_eq] at hq; exact congrArg List.length hq) hts
                 | cons a l => rfl
                clear hts Hok Hbad Hkp
                rcases hk123 with rfl | rfl | rfl
                ·go_wp2_with fail
                 go_ret
                 exact ⟨by first | (rw [Hno.out]; done) | (rw [Hno.out]; rfl), hwz⟩
                ·go_wp2_with fail
                 go_ret
                 exact ⟨by first | (rw [Hno.out]; done) | (rw [Hno.out]; rfl), hwz⟩
                ·go_wp2_with fail
                 go_ret
                 exact ⟨by first | (rw [Hno.out]; done) | (rw [Hno.out]; rfl), hwz⟩
              ·by_cases hk45 : fkind = 4 ∨ fkind = 5
               ·cases ok with
                | false =>
                 have Hno := Lib.hid (Hbad.out (fun h => by have := ((Hkp.out.1 h.2.2).2 (by omega)).1; cases this))
                 clear Hok Hbad Hkp
                 rcases hk45 with rfl | rfl
                 ·go_wp2_with fail
                  go_ret
                  exact ⟨by first | (rw [Hno.out]; done) | (rw [Hno.out]; rfl), hwz⟩
                 ·go_wp2_with fail
                  go_ret
                  exact ⟨by first | (rw [Hno.out]; done) | (rw [Hno.out]; rfl), hwz⟩
                | true =>
                 rcases hk45 with rfl | rfl
                 ·cases tye with
                  | true =>
                   have Hf := Lib.hid (Hok.out (by omega) (by omega) (Hkp.out.2 ⟨fun h => absurd h (by omega), fun _ => ⟨rfl, rfl⟩⟩))
                   clear Hok Hbad Hkp
                   go_wp2_with fail
                   go_roundw
                   case rel => exact ⟨k + 1, _, fid, rfl, rfl, by go_num, by omega, HST.out.symm, HP2, f2_step He.out hlt Hf.out, hbk4, htp4, hwz⟩
                   case measure => simp [intOf]; omega
                  | false =>
                   have Hno := Lib.hid (Hbad.out (fun h => by have := ((Hkp.out.1 h.2.2).2 (by omega)).2; cases this))
                   clear Hok Hbad Hkp
                   go_wp2_with fail
                   go_ret
                   exact ⟨by first | (rw [Hno.out]; done) | (rw [Hno.out]; rfl), hwz⟩
                 ·cases tye with
                  | false =>
                   have Hf := Lib.hid (Hok.out (by omega) (by omega) (Hkp.out.2 ⟨fun h => absurd h (by omega), fun _ => ⟨rfl, rfl⟩⟩))
                   clear Hok Hbad Hkp
                   go_wp2_with fail
                   go_roundw
                   case rel => exact ⟨k + 1, _, fid, rfl, rfl, by go_num, by omega, HST.out.symm, HP2, f2_step He.out hlt Hf.out, hbk4, htp4, hwz⟩
                   case measure => simp [intOf]; omega
                  | true =>
                   have Hno := Lib.hid (Hbad.out (fun h => by have := ((Hkp.out.1 h.2.2).2 (by omega)).2; cases this))
                   clear Hok Hbad Hkp
                   go_wp2_with fail
                   go_ret
                   exact ⟨by first | (rw [Hno.out]; done) | (rw [Hno.out]; rfl), hwz⟩
               ·have Hno := Lib.hid (Hbad.out (fun h => by omega))
                have n1 : (fkind == 1) = false := by simp; omega
                have n2 : (fkind == 2) = false := by simp; omega
                have n3 : (fkind == 3) = false := by simp; omega
                have n4 : (fkind == 4) = false := by simp; omega
                have n5 : (fkind == 5) = false := by simp; omega
                clear Hok Hbad Hkp
                go_wp2_with fail
                go_ret
                exact ⟨by first | (rw [Hno.out]; done) | (rw [Hno.out]; rfl), hwz⟩
        ·have Hno := Lib.hid (HNO.out (fun h => hnm h.1.1.1))
         have hnf : namedF fname = false := by simpa using hnm
         go_wp2_with fail
         refine (isName_any fname _ (by omega) HMn.out).mono ?_
         rintro e w2 ⟨rfl, hb2⟩
         have hw2 := below_via hwa hb2 hwa.size
         have zb2 := zb.below hb2 zb.lt
         have d0 := zb2.cell 0
         have d1 := zb2.cell 1
         have d4 := zb2.cell 4
         have ld := zb2.lt
         simp only [List.getElem?_cons_zero, List.getElem?_cons_succ] at d0 d1 d4
         rw [hnf]
         clear zb zb2 hb2 q0 q1 q2 q3 q4 hbkn htpn
         go_wp2_with fail
         all_goals first
          | (go_ret; exact ⟨by first | (rw [Hno.out]; done) | (rw [Hno.out]; rfl), hw2⟩)
          | (exfalso; omega)
     ·have Hyes := Lib.hid (Hr.out.trans (f2_yes (b := b) H1.out HGone.out (fun j h => He.out j h (by omega))))
      clear hp hU He hbk htp
      go_wp2_with fail
      go_ret
      exact ⟨by first | (rw [Hyes.out]; done) | (rw [Hyes.out]; rfl), hb⟩
 ·have Hno := Lib.hid (Hr.out.trans (msg_no1 (b := b) h1))
  have h2 : 0 < t.items.length ∨ (t.items.length = 0 ∧ 5 < t.fields.length) ∨ (t.fields.length ≤ 5 ∧ t.items.length = 0 ∧ 30 < t.gone.length) := by omega
  clear h1
  rcases h2 with h2 | ⟨h2, h3⟩ | ⟨h2, h3, h4⟩
  ·have e1 : ((t.items.length : Int) != 0) = true := by simp only [bne_iff_ne, ne_eq]; omega
   go_wp2_with fail
   all_goals first
    | (go_ret; exact ⟨by first | (rw [Hno.out]; done) | (rw [Hno.out]; rfl), X3.out⟩)
    | (exfalso; omega)
  ·have e1 : ((t.items.length : Int) != 0) = false := by simp [h2]
   have e2 : decide ((t.fields.length : Int) > 5) = true := by simp; omega
   clear h2
   go_wp2_with fail
   all_goals first
    | (go_ret; exact ⟨by first | (rw [Hno.out]; done) | (rw [Hno.out]; rfl), X3.out⟩)
    | (exfalso; omega)
  ·have e1 : ((t.items.length : Int) != 0) = false := by simp [h3]
   have e2 : decide ((t.fields.length : Int) > 5) = false := by simp; omega
   have e3 : decide ((t.gone.length : Int) > 30) = true := by simp; omega
   clear h3
   go_wp2_with fail
   all_goals first
    | (go_ret; exact ⟨by first | (rw [Hno.out]; done) | (rw [Hno.out]; rfl), X3.out⟩)
    | (exfalso; omega)
end Go.Proofs.YtihdnjnhhhafkaaGreatDoor
