/- The walk of the statement ValueBack. -/
import Derived.Test.YtkdmcplomfcoeaaDoorLawValues
namespace Go.Proofs.YtkdmcplomfcoeaaDoor
open Go.RowKit

set_option maxRecDepth 100000 in
set_option maxHeartbeats 4000000 in
theorem valueBack_any (S S' : Nat → Prop) (vb : Value) (b : BookD) (name : ByteArray) (cs : List Value) (v : ValueD) (w : World) (hb0 : RSl 5 96 RType S w [vb] b) (hr0 : RVal S' w cs v) (hW : Words w) (hB : BookOk b) (hok : okV v) (hd : depthV v ≤ 4611686018427387904) (hc : countV v ≤ 4611686018427387904) :
    Calls Tryd.prog 3 #[.agg #[vb], .string name, .agg cs.toArray] w (Ret w (.bool true)) := by
  obtain ⟨A, cap, rfl, hlc, hlb⟩ := hb0.form
  have hty : ∀ W cs, RSl 5 96 RType S W [.slice A b.length cap] b → Words W → RVal S' W cs v → Calls Tryd.prog 11 #[.agg #[.slice A b.length cap], .string name, .agg cs.toArray] W (Ret W (.int .i64 (TypedF b name v))) := fun W cs h0 h1 h2 => vTyped_any S S' _ b name cs v W h0 h2 h1 hB hok hd hc
  have hen : ∀ W cs, RSl 5 96 RType S W [.slice A b.length cap] b → Words W → RVal S' W cs v → Calls Tryd.prog 9 #[.agg #[.slice A b.length cap], .string name, .agg cs.toArray] W (EncPost W (EncodeF b name v)) := fun W cs h0 h1 h2 => vEncode_any S S' _ b name cs v W h0 h2 h1 hB hok hd hc
  obtain ⟨q1, q2, q3⟩ := EncodeF_ok (b := b) (name := name) (v := v)
  obtain ⟨c, hce⟩ : ∃ c, c = TypedF b name v := ⟨_, rfl⟩
  obtain ⟨t, hte⟩ : ∃ t, t = (EncodeF b name v).1 := ⟨_, rfl⟩
  have hEF : EncodeF b name v = (t, c) := by rw [hte, hce, ← q1]
  have ht0 : c ≠ 0 → t = [] := fun h => by rw [hte]; exact q2 (by rw [q1, ← hce]; exact h)
  have hback : c = 0 → ∀ W, RSl 5 96 RType S W [.slice A b.length cap] b → Words W → Calls Tryd.prog 12 #[.agg #[.slice A b.length cap], .string name, .string ⟨t.toArray⟩] W (ValCode W (v, 0)) := fun h W h0 h1 => by
    obtain ⟨_, r2, r3⟩ := value_back (b := b) (name := name) (v := v) (by rw [← hce, h])
    have e : t = (encV v).1 := by rw [hte, q3 (by rw [q1, ← hce, h])]
    have := vDecode_any S _ b name ⟨t.toArray⟩ W h0 h1 hB (by rw [e]; unfold maxLen; show (encV v).1.toArray.size ≤ _; simp; omega)
    rw [bytes_of, e, r3] at this
    rw [e]; exact this
  rw [← hce] at hty
  rw [hEF] at hen
  have hsame : ∀ W S2 cs cs', RVal S' W cs v → RVal S2 W cs' v → Calls Tryd.prog 13 #[.agg cs.toArray, .agg cs'.toArray] W (Ret W (.bool true)) := fun W S2 cs cs' h1 h2 => same_any S' S2 _ cs cs' v W (Nat.le_refl _) h1 h2
  clear q1 q2 q3 hce hte hEF hok hd hc
  obtain ⟨vk, vn, vs, vids, vls⟩ := v
  obtain ⟨D1, f1, D2, f2, rfl, -, -⟩ := hr0.parts
  have HB := Lib.hid hb0
  have HR := Lib.hid hr0
  have HW := Lib.hid hW
  have HT := Lib.hid hty
  have HE := Lib.hid hen
  have HK := Lib.hid hback
  have HS := Lib.hid hsame
  have H0 := Lib.hid ht0
  obtain ⟨x1, x2, x3⟩ := boxes2 w [.slice A b.length cap] [.int .i64 vk, .int .i64 vn, .string vs, .slice D1 vids.length f1, .slice D2 vls.length f2] 24 28
  clear hb0 hr0 hW hB hty hen hback hsame ht0
  go_enter Tryd.func3, Tryd.ntmps3
  obtain ⟨a0, a1, a2, a3, a4⟩ := x2.five
  have hl1 := x2.lt
  go_wp2_with fail
  refine (HE.out _ _ ((RSl.fair RType.fair).below HB.out x3) (HW.out.below x3) (RVal.fair.below HR.out x3)).mono ?_
  rintro e w1 ⟨rfl, hb1⟩
  have hw1 := below_via x3 hb1 x3.size
  have y1 := x1.below hb1 x1.lt
  have y2 := x2.below hb1 x2.lt
  clear a0 a1 a2 a3 a4 hl1 x1 x2 x3 hb1 HE
  dsimp only
  by_cases hc : c = 0
  · subst hc
    have Hk := Lib.hid (HK.out rfl)
    clear HK H0 HT
    go_wp2_with fail
    refine (values_any _ (HW.out.below hw1)).mono ?_
    rintro e w2 ⟨rfl, hb2⟩
    have hw2 := below_via hw1 hb2 hw1.size
    have z1 := y1.below hb2 y1.lt
    have z2 := y2.below hb2 y2.lt
    have c0 : w2.cell? ⟨w.heap.size, 0, none⟩ = some (.slice A b.length cap) := z1.cell 0
    have hl0 := z1.lt
    clear y1 y2 hb2 hw1
    go_wp2_with fail
    refine (Hk.out _ ((RSl.fair RType.fair).below HB.out hw2) (HW.out.below hw2)).mono ?_
    rintro e w4 ⟨cs4, rfl, hr4, hb4⟩
    dsimp only at hr4 ⊢
    obtain ⟨E1, g1, E2, g2, rfl, -, -⟩ := hr4.parts
    have hw4 := below_via hw2 hb4 hw2.size
    have hw5 := hw4.alloc hw4.size (.cells [.int .i64 vk, .int .i64 vn, .string vs, .slice E1 vids.length g1, .slice E2 vls.length g2].toArray 28)
    have zv4 := z2.below hb4 z2.lt
    have zu5 : Box (w4.alloc (.cells [.int .i64 vk, .int .i64 vn, .string vs, .slice E1 vids.length g1, .slice E2 vls.length g2].toArray 28)) w4.heap.size 28 [.int .i64 vk, .int .i64 vn, .string vs, .slice E1 vids.length g1, .slice E2 vls.length g2] := Box.new w4 _ _
    have Hr5 := Lib.hid (RVal.fair.below HR.out hw5)
    have Hu5 := Lib.hid (RVal.fair.keep hr4 (Keep.alloc _ w4 (.cells [.int .i64 vk, .int .i64 vn, .string vs, .slice E1 vids.length g1, .slice E2 vls.length g2].toArray 28)))
    obtain ⟨a0, a1, a2, a3, a4⟩ := zv4.five
    have hl1 := zv4.lt
    clear c0 hl0 z1 z2 hb4 hr4 hw2
    go_wp2_with fail
    refine (HS.out _ _ _ _ Hr5.out Hu5.out).mono ?_
    rintro e w7 ⟨rfl, hb7⟩
    go_wp2_with fail
    go_ret
    exact ⟨rfl, below_via hw5 hb7 hw5.size⟩
  · have hcb : (c != 0) = true := by simpa using hc
    have ht := H0.out hc
    subst ht
    have c0 : w1.cell? ⟨w.heap.size, 0, none⟩ = some (.slice A b.length cap) := y1.cell 0
    have hl0 := y1.lt
    obtain ⟨a0, a1, a2, a3, a4⟩ := y2.five
    have hl1 := y2.lt
    clear hc HK H0
    go_wp2_with fail
    refine (HT.out _ _ ((RSl.fair RType.fair).below HB.out hw1) (HW.out.below hw1) (RVal.fair.below HR.out hw1)).mono ?_
    rintro e w2 ⟨rfl, hb2⟩
    have hw2 := below_via hw1 hb2 hw1.size
    clear a0 a1 a2 a3 a4 hl1 c0 hl0
    go_wp2_with fail
    refine (values_any _ (HW.out.below hw2)).mono ?_
    rintro e w3 ⟨rfl, hb3⟩
    go_wp2_with fail
    go_ret
    exact ⟨rfl, below_via hw2 hb3 hw2.size⟩
end Go.Proofs.YtkdmcplomfcoeaaDoor
