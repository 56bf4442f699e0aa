/- The walk of the document's own IsTyped. -/
import Derived.Test.YtmfohocejbgojaaDoorRefInside
import Derived.Test.YtmfohocejbgojaaDoorValueTop
namespace Go.Proofs.YtmfohocejbgojaaDoor
open Go.RowKit
set_option maxRecDepth 100000 in
set_option maxHeartbeats 4000000 in
theorem isTyped_any (S S' : Nat → Prop) (vb : Value) (b : BookD) (name : ByteArray) (cs : List Value) (v : ValueD) (w : World) (hb0 : RSl 5 96 RType S w [vb] b) (hr : RVal S' w cs v) (hM : MaxL w) (hB : BookOk b) (hsm : BookSmall b) (hok : okV v) (hd : depthV v ≤ 4611686018427387904) (hc : countV v ≤ 4611686018427387904) :
    Calls Tryd.prog 18 #[.agg #[vb], .string name, .agg cs.toArray] w (Ret w (.int .i64 (TypedF b name v))) := by
  obtain ⟨A, cap, rfl, hlc, hlb⟩ := hb0.form
  obtain ⟨r, hrr⟩ : ∃ r, r = TypedF b name v := ⟨_, rfl⟩
  have Hr := Lib.hid (show r = if goodF b ≠ 0 then 1 else if noneB b name = true then 3 else if smallF v = false then 7 else typedF b (typeOf b name) v from hrr)
  rw [← hrr]
  have Hms := Lib.hid (fun W (h0 : RSl 5 96 RType S W [.slice A b.length cap] b) (h1 : MaxL W) => messageOf_any S _ b name W h0 h1 hB hsm)
  have Hsm := Lib.hid (fun W (h : RVal S' W cs v) => isSmall_any S' cs v W h hd hc)
  have Hin := Lib.hid (fun (hg : goodF b = 0) W (h0 : RSl 5 96 RType S W [.slice A b.length cap] b) (h2 : RVal S' W cs v) => inside_any S S' (.slice A b.length cap) b (kinds_of_good hg) (depthV v) name cs v W (Nat.le_refl _) h0 h2 hok)
  obtain ⟨gd, hgd⟩ : ∃ gd, gd = goodF b := ⟨_, rfl⟩
  obtain ⟨nb, hnb⟩ : ∃ nb, nb = noneB b name := ⟨_, rfl⟩
  obtain ⟨sm, hsmm⟩ : ∃ sm, sm = smallF v := ⟨_, rfl⟩
  obtain ⟨tf, htf⟩ : ∃ tf, tf = typedF b (typeOf b name) v := ⟨_, rfl⟩
  rw [← hgd, ← hnb] at Hms
  rw [← hgd, ← hnb, ← hsmm, ← htf] at Hr
  rw [← hsmm] at Hsm
  rw [← hgd, ← htf] at Hin
  obtain ⟨mc, hmc⟩ : ∃ mc : Int, mc = if gd ≠ 0 then 1 else if nb = true then 3 else 0 := ⟨_, rfl⟩
  rw [← hmc] at Hms
  have Hmc := Lib.hid hmc
  have HB := Lib.hid hb0
  have HM := Lib.hid hM
  have HV := Lib.hid hr
  obtain ⟨kind, n, s, ids, l⟩ := v
  obtain ⟨I1, d1, I2, d2, rfl, _, _⟩ := hr.parts
  obtain ⟨x1, x2, x3⟩ := boxes2 w [.slice A b.length cap] [.int .i64 kind, .int .i64 n, .string s, .slice I1 ids.length d1, .slice I2 l.length d2] 24 28
  clear hb0 hr hM hB hsm hok hd hc hrr hsmm htf hgd hnb hmc
  go_enter Tryd.func18, Tryd.ntmps18
  go_wp2_with fail
  refine (Hms.out _ ((RSl.fair RType.fair).below HB.out x3) (HM.out.below x3)).mono ?_
  rintro e w1 ⟨mt, M1, M2, M3, m1, m2, m3, rfl, hb1⟩
  have hw1 := below_via x3 hb1 x3.size
  have hw2 := hw1.alloc hw1.size (.cells #[.string mt.name, .bool mt.enum, .slice M1 mt.fields.length m1, .slice M2 mt.gone.length m2, .slice M3 mt.items.length m3] 47)
  have y1 := (x1.below hb1 x1.lt).alloc (.cells #[.string mt.name, .bool mt.enum, .slice M1 mt.fields.length m1, .slice M2 mt.gone.length m2, .slice M3 mt.items.length m3] 47)
  have y2 := (x2.below hb1 x2.lt).alloc (.cells #[.string mt.name, .bool mt.enum, .slice M1 mt.fields.length m1, .slice M2 mt.gone.length m2, .slice M3 mt.items.length m3] 47)
  obtain ⟨u0, u1, u2, u3, u4⟩ := (x2.below hb1 x2.lt).five
  have hl2 := (x2.below hb1 x2.lt).lt
  clear hb1 x1 x2 x3 hw1
  by_cases hm0 : mc = 0
  · subst hm0
    have hg0 : gd = 0 := by
      by_cases hg : gd = 0
      · exact hg
      · have := Hmc.out; rw [if_pos hg] at this; cases this
    have hn0 : nb = false := by
      cases hnb : nb with
      | false => rfl
      | true => have := Hmc.out; rw [if_neg (by simp [hg0]), if_pos hnb] at this; cases this
    rw [hg0, hn0, if_neg (by simp), if_neg (by simp)] at Hr
    have Hin2 := Lib.hid (Hin.out hg0)
    clear hg0 hn0 Hin Hmc
    go_wp2_with fail
    refine (Hsm.out _ (RVal.fair.below HV.out hw2)).mono ?_
    rintro e w3 ⟨rfl, hb3⟩
    have hw3 := below_via hw2 hb3 hw2.size
    have z1 := y1.below hb3 y1.lt
    have z2 := y2.below hb3 y2.lt
    obtain ⟨u0', u1', u2', u3', u4'⟩ := z2.five
    have hl2' := z2.lt
    have s0 : w3.cell? ⟨w.heap.size, 0, none⟩ = some (.slice A b.length cap) := z1.cell 0
    have hl1 := z1.lt
    clear u0 u1 u2 u3 u4 hl2 y1 y2 hw2 hb3
    cases sm with
    | false =>
      simp only [if_true] at Hr
      go_wp2_with fail
      go_ret
      exact ⟨ret_i (by rw [Hr.out]), hw3⟩
    | true =>
      simp only [Bool.true_eq_false, if_false] at Hr
      go_wp2_with fail
      refine (Hin2.out _ ((RSl.fair RType.fair).below HB.out hw3) (RVal.fair.below HV.out hw3)).mono ?_
      rintro e w6 ⟨rfl, hb6⟩
      go_wp2_with fail
      go_ret
      exact ⟨ret_i (by rw [Hr.out]), below_via hw3 hb6 hw3.size⟩
  · have hmb : (mc != 0) = true := by simpa using hm0
    have Hno : Hid (r = mc) := by
      show r = mc
      rw [Hr.out, Hmc.out]
      by_cases hg : gd = 0
      · cases hnb : nb with
        | false => exact absurd (by rw [Hmc.out, if_neg (by simp [hg]), if_neg (by simp [hnb])]) hm0
        | true => simp [hg]
      · rw [if_pos hg, if_pos hg]
    clear hm0
    go_wp2_with fail
    go_ret
    exact ⟨ret_i (by rw [Hno.out]), hw2⟩

end Go.Proofs.YtmfohocejbgojaaDoor
