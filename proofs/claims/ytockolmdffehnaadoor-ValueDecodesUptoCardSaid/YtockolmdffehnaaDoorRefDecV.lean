/- The walk of the document's own DecodeValue. -/
import Derived.Test.YtockolmdffehnaaDoorRefValueOf
import Derived.Test.YtockolmdffehnaaDoorRefMessage
import Derived.Test.YtockolmdffehnaaDoorRefSize
import Derived.Test.YtockolmdffehnaaDoorVLaws
namespace Go.Proofs.YtockolmdffehnaaDoor
open Go.RowKit
attribute [local go_sem ↓] Go.wp_at_zero Go.wp_at_succ
theorem valueOf_any (vb : Value) (b : BookD) (hg : goodF b = 0) : ∀ (k : Nat), ValueOfAt vb b k
  | 0 => valueOf_zero vb b
  | k + 1 => valueOf_succ vb b hg k (valueOf_any vb b hg k)
theorem decodeValue_results {W : World} {a : Act} {g : Nat} {c0 c1 c2 c3 c4 : Value} {n : Int} (hb : Box W g 28 [c0, c1, c2, c3, c4]) (h4 : a.tmps.getD 6 undef = .pointer (some ⟨g, 0, none⟩)) (h5 : a.tmps.getD 7 undef = .int .i64 n) :
    (results Tryd.f12 a.tmps).run Tryd.prog W = .ok (.tuple #[.agg #[c0, c1, c2, c3, c4], .int .i64 n]) W := by
  obtain ⟨e0, e1, e2, e3, e4⟩ := hb.five
  simp only [Array.getD_eq_getD_getElem?] at h4 h5
  simp [results, Tryd.results12, go_sem, h4, h5, e0, e1, e2, e3, e4]
set_option maxRecDepth 100000 in
set_option maxHeartbeats 4000000 in
theorem decodeValue_any (S : Nat → Prop) (vb : Value) (b : BookD) (name s : ByteArray) (w : World) (hb0 : RSl 5 96 RType S w [vb] b) (hM : MaxL w) (hB : BookOk b) (hsm : BookSmall b) (hs : s.size ≤ maxLen) :
    Calls Tryd.prog 12 #[.agg #[vb], .string name, .string s] w (ValCode w (DecodeF b name (bytes s))) := by
  obtain ⟨A, cap, rfl, hlc, hlb⟩ := hb0.form
  obtain ⟨r, hrr⟩ : ∃ r, r = DecodeF b name (bytes s) := ⟨_, rfl⟩
  obtain ⟨dv, hdv⟩ : ∃ dv, dv = decV b 24 (typeOf b name) (bytes s) := ⟨_, rfl⟩
  have hr0 : r = if goodF b ≠ 0 then (.zero, 1) else if noneB b name = true then (.zero, 3) else if dv.2 ≠ 0 then (.zero, dv.2) else if smallF dv.1 = false then (.zero, 7) else (dv.1, 0) := by rw [hrr, hdv]; rfl
  have hrun : goodF b = 0 → noneB b name = false → ∀ W, RSl 5 96 RType S W [.slice A b.length cap] b → Calls Tryd.prog 30 #[.agg #[.slice A b.length cap], .string name, .string s, .int .i64 24] W (ValCode W dv) := fun hg hn W h0 => by
    rw [hdv]; exact valueOf_any _ b hg 24 S name s W h0 hn hs (by omega)
  have hsz : goodF b = 0 → noneB b name = false → countV dv.1 ≤ 240012 ∧ depthV dv.1 ≤ 29 := fun hg hn => by rw [hdv]; exact decode_size hg hn _
  rw [← hrr]
  have hms := fun W (h0 : RSl 5 96 RType S W [.slice A b.length cap] b) (h1 : MaxL W) => messageOf_any S _ b name W h0 h1 hB hsm
  obtain ⟨gd, hgd⟩ : ∃ gd, gd = goodF b := ⟨_, rfl⟩
  obtain ⟨nb, hnb⟩ : ∃ nb, nb = noneB b name := ⟨_, rfl⟩
  rw [← hgd, ← hnb] at hms hr0 hrun hsz
  obtain ⟨mc, hmc⟩ : ∃ mc : Int, mc = if gd ≠ 0 then 1 else if nb = true then 3 else 0 := ⟨_, rfl⟩
  rw [← hmc] at hms
  have Hms := Lib.hid hms
  have HB := Lib.hid hb0
  have HM := Lib.hid hM
  have Hrun := Lib.hid (And.intro hrun hsz)
  have Hr := Lib.hid hr0
  have Hmc := Lib.hid hmc
  obtain ⟨x1, x2, x3⟩ := boxes2 w [.slice A b.length cap] [.int .i64 0, .int .i64 0, .string ⟨#[]⟩, .slice none 0 0, .slice none 0 0] 24 28
  clear hb0 hM hB hsm hs hrr hr0 hrun hdv hms hgd hnb hmc hsz
  go_enter Tryd.func12, Tryd.ntmps12
  go_wp2_with fail
  refine (Hms.out _ ((RSl.fair RType.fair).below HB.out x3) (HM.out.below x3)).mono ?_
  rintro e w1 ⟨mt, M1, M2, M3, m1, m2, m3, rfl, hb1⟩
  have hw1 := below_via x3 hb1 x3.size
  have hw2 := hw1.alloc hw1.size (.cells #[.string mt.name, .bool mt.enum, .slice M1 mt.fields.length m1, .slice M2 mt.gone.length m2, .slice M3 mt.items.length m3] 51)
  have y1 := (x1.below hb1 x1.lt).alloc (.cells #[.string mt.name, .bool mt.enum, .slice M1 mt.fields.length m1, .slice M2 mt.gone.length m2, .slice M3 mt.items.length m3] 51)
  have y2 := (x2.below hb1 x2.lt).alloc (.cells #[.string mt.name, .bool mt.enum, .slice M1 mt.fields.length m1, .slice M2 mt.gone.length m2, .slice M3 mt.items.length m3] 51)
  by_cases hm0 : mc = 0
  · subst hm0
    have hg0 : gd = 0 := by
      by_cases hg : gd = 0
      · exact hg
      · have := Hmc.out; rw [if_pos hg] at this; cases this
    have hn0 : nb = false := by
      cases hnb : nb with
      | false => rfl
      | true => have := Hmc.out; rw [if_neg (by simp [hg0]), if_pos hnb] at this; cases this
    have Hr2 : Hid (r = if dv.2 ≠ 0 then (.zero, dv.2) else if smallF dv.1 = false then (.zero, 7) else (dv.1, 0)) := by show _ = _; rw [Hr.out, if_neg (by simp [hg0]), if_neg (by simp [hn0])]
    have Hrun2 := Lib.hid (Hrun.out.1 hg0 hn0)
    have Hsz := Lib.hid (Hrun.out.2 hg0 hn0)
    have s0 : w1.cell? ⟨w.heap.size, 0, none⟩ = some (.slice A b.length cap) := (x1.below hb1 x1.lt).cell 0
    have hl1 := (x1.below hb1 x1.lt).lt
    have hlM : w1.heap.size < (w1.alloc (.cells #[.string mt.name, .bool mt.enum, .slice M1 mt.fields.length m1, .slice M2 mt.gone.length m2, .slice M3 mt.items.length m3] 51)).heap.size := (Box.new w1 51 [.string mt.name, .bool mt.enum, .slice M1 mt.fields.length m1, .slice M2 mt.gone.length m2, .slice M3 mt.items.length m3]).lt
    clear hb1 x1 x2 x3 hg0 hn0 Hmc Hr Hrun hw1
    go_wp2_with fail
    generalize w1.alloc (.cells #[.string mt.name, .bool mt.enum, .slice M1 mt.fields.length m1, .slice M2 mt.gone.length m2, .slice M3 mt.items.length m3] 51) = W2 at *
    refine (Hrun2.out _ ((RSl.fair RType.fair).below HB.out hw2)).mono ?_
    rintro e w5 ⟨cs5, rfl, hr5, hb5⟩
    obtain ⟨⟨vk, vn, vs, vids, vls⟩, dc⟩ := dv
    dsimp only at hr5 Hr2 Hsz ⊢
    obtain ⟨D1, f1, D2, f2, rfl, -, -⟩ := hr5.parts
    have hw5 := below_via hw2 hb5 hw2.size
    have p2 := y2.below hb5 y2.lt
    have hwv := hw5.alloc hw5.size (.cells #[.int .i64 vk, .int .i64 vn, .string vs, .slice D1 vids.length f1, .slice D2 vls.length f2] 28)
    have q2 := p2.alloc (.cells #[.int .i64 vk, .int .i64 vn, .string vs, .slice D1 vids.length f1, .slice D2 vls.length f2] 28)
    have qv : Box (w5.alloc (.cells #[.int .i64 vk, .int .i64 vn, .string vs, .slice D1 vids.length f1, .slice D2 vls.length f2] 28)) w5.heap.size 28 [.int .i64 vk, .int .i64 vn, .string vs, .slice D1 vids.length f1, .slice D2 vls.length f2] := Box.new w5 _ _
    have Hrv := Lib.hid (RVal.fair.keep hr5 (Keep.alloc _ w5 (.cells #[.int .i64 vk, .int .i64 vn, .string vs, .slice D1 vids.length f1, .slice D2 vls.length f2] 28)))
    have hlo : w.heap.size + 1 < W2.heap.size := y2.lt
    have Hlo := Lib.hid hlo
    clear s0 hl1 hlM hr5 hb5 y1 y2 hw2 p2 hw5 Hrun2 hlo
    by_cases hdc : dc = 0
    · subst hdc
      rw [if_neg (by simp)] at Hr2
      have hlw5 : w5.heap.size < (w5.alloc (.cells #[.int .i64 vk, .int .i64 vn, .string vs, .slice D1 vids.length f1, .slice D2 vls.length f2] 28)).heap.size := qv.lt
      go_upto_region 7 with fail
      generalize hWv : w5.alloc (.cells #[.int .i64 vk, .int .i64 vn, .string vs, .slice D1 vids.length f1, .slice D2 vls.length f2] 28) = Wv at *
      generalize hV : w5.heap.size = V at *
      clear hWv hV
      have hcs := isSmall_any (New W2) _ (.mk vk vn vs vids vls) Wv Hrv.out (by have := Hsz.out.2; omega) (by have := Hsz.out.1; omega)
      obtain ⟨sm, hsm⟩ : ∃ sm, sm = smallF (.mk vk vn vs vids vls) := ⟨_, rfl⟩
      rw [← hsm] at hcs Hr2
      have Hcs := Lib.hid hcs
      obtain ⟨u0, u1, u2, u3, u4⟩ := qv.five
      have hlv := qv.lt
      clear hcs hsm
      go_wp2_with fail
      refine Hcs.out.mono ?_
      rintro e w6 ⟨rfl, hb6⟩
      have hw6 := below_via hwv hb6 hwv.size
      have m2 := q2.below hb6 q2.lt
      have mv := qv.below hb6 qv.lt
      have Hr6 := Lib.hid (RVal.fair.below Hrv.out hb6)
      clear u0 u1 u2 u3 u4 hlv hb6 Hcs q2 qv hwv Hrv
      obtain ⟨u0, u1, u2, u3, u4⟩ := mv.five
      have hlv := mv.lt
      cases sm with
      | false =>
        rw [if_pos rfl] at Hr2
        have Hno := Hr2
        have Hb5 := Lib.hid (m2.setCells [.int .i64 0, .int .i64 0, .string ⟨#[]⟩, .slice none 0 0, .slice none 0 0] rfl)
        have Hw5 := Lib.hid (below_setCells (g := w.heap.size + 1) (Nat.le_succ _) [.int .i64 0, .int .i64 0, .string ⟨#[]⟩, .slice none 0 0, .slice none 0 0] 0 _ hw6)
        obtain ⟨r0, r1, r2, r3, r4⟩ := m2.five
        have g0 := m2.frozen 0
        have g1 := m2.frozen 1
        have g2 := m2.frozen 2
        have g3 := m2.frozen 3
        have g4 := m2.frozen 4
        have hlr := m2.lt
        go_wp2_with fail
        change bodyPost _ _ _ _ _ (setCells w6 (w.heap.size + 1) 0 [.int .i64 0, .int .i64 0, .string ⟨#[]⟩, .slice none 0 0, .slice none 0 0])
        rw [Hno.out]
        exact bodyPost_ret (decodeValue_results Hb5.out rfl rfl) rfl ⟨_, rfl, RVal.zero, Hw5.out⟩
      | true =>
        rw [if_neg (by simp)] at Hr2
        obtain ⟨r0, r1, r2, r3, r4⟩ := m2.five
        have g0 := m2.frozen 0
        have g1 := m2.frozen 1
        have g2 := m2.frozen 2
        have g3 := m2.frozen 3
        have g4 := m2.frozen 4
        have hlr := m2.lt
        go_wp2_with fail
        change bodyPost _ _ _ _ _ (setCells w6 (w.heap.size + 1) 0 [.int .i64 vk, .int .i64 vn, .string vs, .slice D1 vids.length f1, .slice D2 vls.length f2])
        have hb5 := m2.setCells [.int .i64 vk, .int .i64 vn, .string vs, .slice D1 vids.length f1, .slice D2 vls.length f2] rfl
        have hw5' := below_setCells (g := w.heap.size + 1) (Nat.le_succ _) [.int .i64 vk, .int .i64 vn, .string vs, .slice D1 vids.length f1, .slice D2 vls.length f2] 0 _ hw6
        have hrd : RVal (New w) (setCells w6 (w.heap.size + 1) 0 [.int .i64 vk, .int .i64 vn, .string vs, .slice D1 vids.length f1, .slice D2 vls.length f2]) [.int .i64 vk, .int .i64 vn, .string vs, .slice D1 vids.length f1, .slice D2 vls.length f2] (.mk vk vn vs vids vls) :=
          RVal.fair.mono (RVal.fair.keep Hr6.out (Keep.setCells (by have := Hlo.out; unfold New; go_light; omega) _ _ _)) (fun y hy _ => by have := Hlo.out; unfold New at *; go_light; omega)
        generalize setCells w6 (w.heap.size + 1) 0 _ = W5 at hb5 hw5' hrd ⊢
        rw [Hr2.out]
        exact bodyPost_ret (decodeValue_results hb5 rfl rfl) rfl ⟨_, rfl, hrd, hw5'⟩
    · have hcb : (dc != 0) = true := by simpa using hdc
      rw [if_pos hdc] at Hr2
      have Hno := Hr2
      clear hdc qv Hrv
      have Hb5 := Lib.hid (q2.setCells [.int .i64 0, .int .i64 0, .string ⟨#[]⟩, .slice none 0 0, .slice none 0 0] rfl)
      have Hw5 := Lib.hid (below_setCells (g := w.heap.size + 1) (Nat.le_succ _) [.int .i64 0, .int .i64 0, .string ⟨#[]⟩, .slice none 0 0, .slice none 0 0] 0 _ hwv)
      obtain ⟨r0, r1, r2, r3, r4⟩ := q2.five
      have g0 := q2.frozen 0
      have g1 := q2.frozen 1
      have g2 := q2.frozen 2
      have g3 := q2.frozen 3
      have g4 := q2.frozen 4
      have hlr := q2.lt
      go_wp2_with fail
      change bodyPost _ _ _ _ _ (setCells (w5.alloc (.cells #[.int .i64 vk, .int .i64 vn, .string vs, .slice D1 vids.length f1, .slice D2 vls.length f2] 28)) (w.heap.size + 1) 0 [.int .i64 0, .int .i64 0, .string ⟨#[]⟩, .slice none 0 0, .slice none 0 0])
      rw [Hno.out]
      exact bodyPost_ret (decodeValue_results Hb5.out rfl rfl) rfl ⟨_, rfl, RVal.zero, Hw5.out⟩
  · have hmb : (mc != 0) = true := by simpa using hm0
    have Hno : Hid (r = (.zero, mc)) := by
      show _ = _
      rw [Hr.out, Hmc.out]
      by_cases hg : gd = 0
      · cases hnb : nb with
        | false => exact absurd (by rw [Hmc.out, if_neg (by simp [hg]), if_neg (by simp [hnb])]) hm0
        | true => simp [hg]
      · rw [if_pos hg, if_pos hg]
    clear hm0 hb1 x1 x2 x3 hw1
    have hlM : w1.heap.size < (w1.alloc (.cells #[.string mt.name, .bool mt.enum, .slice M1 mt.fields.length m1, .slice M2 mt.gone.length m2, .slice M3 mt.items.length m3] 51)).heap.size := (Box.new w1 51 [.string mt.name, .bool mt.enum, .slice M1 mt.fields.length m1, .slice M2 mt.gone.length m2, .slice M3 mt.items.length m3]).lt
    have Hb5 := Lib.hid (y2.setCells [.int .i64 0, .int .i64 0, .string ⟨#[]⟩, .slice none 0 0, .slice none 0 0] rfl)
    have Hw5 := Lib.hid (below_setCells (g := w.heap.size + 1) (Nat.le_succ _) [.int .i64 0, .int .i64 0, .string ⟨#[]⟩, .slice none 0 0, .slice none 0 0] 0 _ hw2)
    obtain ⟨r0, r1, r2, r3, r4⟩ := y2.five
    have g0 := y2.frozen 0
    have g1 := y2.frozen 1
    have g2 := y2.frozen 2
    have g3 := y2.frozen 3
    have g4 := y2.frozen 4
    have hlr := y2.lt
    go_wp2_with fail
    change bodyPost _ _ _ _ _ (setCells (w1.alloc (.cells #[.string mt.name, .bool mt.enum, .slice M1 mt.fields.length m1, .slice M2 mt.gone.length m2, .slice M3 mt.items.length m3] 51)) (w.heap.size + 1) 0 [.int .i64 0, .int .i64 0, .string ⟨#[]⟩, .slice none 0 0, .slice none 0 0])
    rw [Hno.out]
    exact bodyPost_ret (decodeValue_results Hb5.out rfl rfl) rfl ⟨_, rfl, RVal.zero, Hw5.out⟩
end Go.Proofs.YtockolmdffehnaaDoor
