/- The walk of the statement ValueOnce. -/
import Derived.Test.YtkdmcplomfcoeaaDoorLawValues
namespace Go.Proofs.YtkdmcplomfcoeaaDoor
open Go.RowKit

set_option maxRecDepth 100000 in
set_option maxHeartbeats 4000000 in
theorem valueOnce_any (S : Nat → Prop) (vb : Value) (b : BookD) (name s : ByteArray) (w : World) (hb0 : RSl 5 96 RType S w [vb] b) (hW : Words w) (hB : BookOk b) (hs : s.size ≤ maxLen) :
    Calls Tryd.prog 4 #[.agg #[vb], .string name, .string s] w (Ret w (.bool true)) := by
  obtain ⟨A, cap, rfl, hlc, hlb⟩ := hb0.form
  have hD := fun W (h0 : RSl 5 96 RType S W [.slice A b.length cap] b) (h1 : Words W) => vDecode_any S _ b name s W h0 h1 hB hs
  have hp := decode_typed (b := b) (name := name) (s := bytes s)
  have hn := DecodeF_none (b := b) (name := name) (s := bytes s)
  obtain ⟨DF, hDF⟩ : ∃ DF, DF = DecodeF b name (bytes s) := ⟨_, rfl⟩
  rw [← hDF] at hD hp hn
  have hty : TypedF b name DF.1 = 0 → ∀ W S' cs, RSl 5 96 RType S W [.slice A b.length cap] b → Words W → RVal S' W cs DF.1 → Calls Tryd.prog 11 #[.agg #[.slice A b.length cap], .string name, .agg cs.toArray] W (Ret W (.int .i64 0)) := fun h W S' cs h0 h1 h2 => by
    have ho := typed_okV h
    have := vTyped_any S S' _ b name cs DF.1 W h0 h2 h1 hB ho.1 (by omega) (by omega)
    rw [h] at this; exact this
  have hen : TypedF b name DF.1 = 0 → ∀ W S' cs, RSl 5 96 RType S W [.slice A b.length cap] b → Words W → RVal S' W cs DF.1 → Calls Tryd.prog 9 #[.agg #[.slice A b.length cap], .string name, .agg cs.toArray] W (EncPost W ((encV DF.1).1, 0)) := fun h W S' cs h0 h1 h2 => by
    have ho := typed_okV h
    have := vEncode_any S S' _ b name cs DF.1 W h0 h2 h1 hB ho.1 (by omega) (by omega)
    rw [(EncodeF_ok (b := b) (name := name) (v := DF.1)).2.2 (by rw [EncodeF_ok.1, h])] at this; exact this
  obtain ⟨t, ht⟩ : ∃ t, t = (encV DF.1).1 := ⟨_, rfl⟩
  have hback : TypedF b name DF.1 = 0 → ∀ W, RSl 5 96 RType S W [.slice A b.length cap] b → Words W → Calls Tryd.prog 12 #[.agg #[.slice A b.length cap], .string name, .string ⟨t.toArray⟩] W (ValCode W (DF.1, 0)) := fun h W h0 h1 => by
    obtain ⟨_, q2, q3⟩ := value_back h
    have := vDecode_any S _ b name ⟨t.toArray⟩ W h0 h1 hB (by rw [ht]; unfold maxLen; show (encV DF.1).1.toArray.size ≤ _; simp; omega)
    rw [bytes_of, ht, q3] at this
    rw [ht]; exact this
  rw [← ht] at hen
  have HB := Lib.hid hb0
  have HW := Lib.hid hW
  have HD := Lib.hid hD
  have HP := Lib.hid hp
  have HN := Lib.hid hn
  have HT := Lib.hid hty
  have HE := Lib.hid hen
  have HK := Lib.hid hback
  obtain ⟨x1, x2⟩ := boxes1 w [.slice A b.length cap] 24
  clear hb0 hW hB hD hp hn hDF hty hen ht hback hs
  go_enter Tryd.func4, Tryd.ntmps4
  go_wp2_with fail
  refine (HD.out _ ((RSl.fair RType.fair).below HB.out x2) (HW.out.below x2)).mono ?_
  rintro e w1 ⟨cs1, rfl, hr1, hb1⟩
  obtain ⟨v, c⟩ := DF
  dsimp only at hr1 HP HN HT HE HK ⊢
  have hw1 := below_via x2 hb1 x2.size
  have y1 := x1.below hb1 x1.lt
  obtain ⟨⟨vk, vn, vs, vids, vls⟩, hve⟩ : ∃ v', v' = v := ⟨_, rfl⟩
  rw [← hve] at hr1 HP HN HT HE HK
  clear hve
  obtain ⟨D1, f1, D2, f2, rfl, -, -⟩ := hr1.parts
  have hwv := hw1.alloc hw1.size (.cells [.int .i64 vk, .int .i64 vn, .string vs, .slice D1 vids.length f1, .slice D2 vls.length f2].toArray 28)
  have z1 := y1.alloc (.cells [.int .i64 vk, .int .i64 vn, .string vs, .slice D1 vids.length f1, .slice D2 vls.length f2].toArray 28)
  have zv : Box (w1.alloc (.cells [.int .i64 vk, .int .i64 vn, .string vs, .slice D1 vids.length f1, .slice D2 vls.length f2].toArray 28)) w1.heap.size 28 [.int .i64 vk, .int .i64 vn, .string vs, .slice D1 vids.length f1, .slice D2 vls.length f2] := Box.new w1 _ _
  have Hr := Lib.hid (RVal.fair.keep hr1 (Keep.alloc _ w1 (.cells [.int .i64 vk, .int .i64 vn, .string vs, .slice D1 vids.length f1, .slice D2 vls.length f2].toArray 28)))
  clear x1 x2 hb1 y1 hr1 HD
  by_cases hc : c = 0
  · subst hc
    have Ht := Lib.hid (HT.out (HP.out rfl))
    have He := Lib.hid (HE.out (HP.out rfl))
    have Hk := Lib.hid (HK.out (HP.out rfl))
    clear HP HN HT HE HK
    go_wp2_with fail
    refine (values_any _ (HW.out.below hwv)).mono ?_
    rintro e w2 ⟨rfl, hb2⟩
    have hw2 := below_via hwv hb2 hwv.size
    have z2 := z1.below hb2 z1.lt
    have zv2 := zv.below hb2 zv.lt
    have Hr2 := Lib.hid (RVal.fair.below Hr.out hb2)
    have c0 : w2.cell? ⟨w.heap.size, 0, none⟩ = some (.slice A b.length cap) := z2.cell 0
    have hl0 := z2.lt
    obtain ⟨a0, a1, a2, a3, a4⟩ := zv2.five
    have hl1 := zv2.lt
    clear z1 zv hwv hb2 Hr hw1
    go_wp2_with fail
    refine (He.out _ _ _ ((RSl.fair RType.fair).below HB.out hw2) (HW.out.below hw2) Hr2.out).mono ?_
    rintro e w3 ⟨rfl, hb3⟩
    have hw3 := below_via hw2 hb3 hw2.size
    have z3 := z2.below hb3 z2.lt
    have zv3 := zv2.below hb3 zv2.lt
    have Hr3 := Lib.hid (RVal.fair.below Hr2.out hb3)
    clear c0 hl0
    have c0 : w3.cell? ⟨w.heap.size, 0, none⟩ = some (.slice A b.length cap) := z3.cell 0
    have hl0 := z3.lt
    clear a0 a1 a2 a3 a4 hl1 z2 zv2 hb3 Hr2 hw2
    dsimp only
    go_wp2_with fail
    refine (Hk.out _ ((RSl.fair RType.fair).below HB.out hw3) (HW.out.below hw3)).mono ?_
    rintro e w4 ⟨cs4, rfl, hr4, hb4⟩
    dsimp only at hr4 ⊢
    obtain ⟨E1, g1, E2, g2, rfl, -, -⟩ := hr4.parts
    have hw4 := below_via hw3 hb4 hw3.size
    have z5 := (z3.below hb4 z3.lt).alloc (.cells [.int .i64 vk, .int .i64 vn, .string vs, .slice E1 vids.length g1, .slice E2 vls.length g2].toArray 28)
    have zv5 := (zv3.below hb4 zv3.lt).alloc (.cells [.int .i64 vk, .int .i64 vn, .string vs, .slice E1 vids.length g1, .slice E2 vls.length g2].toArray 28)
    have zu5 : Box (w4.alloc (.cells [.int .i64 vk, .int .i64 vn, .string vs, .slice E1 vids.length g1, .slice E2 vls.length g2].toArray 28)) w4.heap.size 28 [.int .i64 vk, .int .i64 vn, .string vs, .slice E1 vids.length g1, .slice E2 vls.length g2] := Box.new w4 _ _
    have hw5 := hw4.alloc hw4.size (.cells [.int .i64 vk, .int .i64 vn, .string vs, .slice E1 vids.length g1, .slice E2 vls.length g2].toArray 28)
    have Hr5 := Lib.hid (RVal.fair.keep (RVal.fair.below Hr3.out hb4) (Keep.alloc _ w4 (.cells [.int .i64 vk, .int .i64 vn, .string vs, .slice E1 vids.length g1, .slice E2 vls.length g2].toArray 28)))
    have Hu5 := Lib.hid (RVal.fair.keep hr4 (Keep.alloc _ w4 (.cells [.int .i64 vk, .int .i64 vn, .string vs, .slice E1 vids.length g1, .slice E2 vls.length g2].toArray 28)))
    have b0 : w4.cell? ⟨w.heap.size, 0, none⟩ = some (.slice A b.length cap) := (z3.below hb4 z3.lt).cell 0
    have hl2 := (z3.below hb4 z3.lt).lt
    have zv4 := zv3.below hb4 zv3.lt
    obtain ⟨a0, a1, a2, a3, a4⟩ := zv4.five
    have hl1 := zv4.lt
    clear c0 hl0 z3 zv3 hb4 hr4 Hr3 hw3 zv4
    go_wp2_with fail
    refine (Ht.out _ _ _ ((RSl.fair RType.fair).below HB.out hw5) (HW.out.below hw5) Hr5.out).mono ?_
    rintro e w6 ⟨rfl, hb6⟩
    have hw6 := below_via hw5 hb6 hw5.size
    have zv6 := zv5.below hb6 zv5.lt
    have zu6 := zu5.below hb6 zu5.lt
    have Hr6 := Lib.hid (RVal.fair.below Hr5.out hb6)
    have Hu6 := Lib.hid (RVal.fair.below Hu5.out hb6)
    clear a0 a1 a2 a3 a4 hl1 b0 hl2
    obtain ⟨a0, a1, a2, a3, a4⟩ := zv6.five
    have hl1 := zv6.lt
    obtain ⟨b0, b1, b2, b3, b4⟩ := zu6.five
    have hl2 := zu6.lt
    clear z5 zv5 zu5 hb6 Hr5 Hu5 hw5
    go_wp2_with fail
    refine (same_any _ _ _ _ _ (.mk vk vn vs vids vls) _ (Nat.le_refl _) Hr6.out Hu6.out).mono ?_
    rintro e w7 ⟨rfl, hb7⟩
    go_wp2_with fail
    go_ret
    exact ⟨rfl, below_via hw6 hb7 hw6.size⟩
  · have hcb : (c != 0) = true := by simpa using hc
    have hz := HN.out hc
    have hz' : ValueD.mk vk vn vs vids vls = .mk 0 0 ⟨#[]⟩ [] [] := hz
    injection hz' with q1 q2 q3 q4 q5
    subst q1 q2 q3 q4 q5
    clear hc hz HP HN HT HE HK
    obtain ⟨a0, a1, a2, a3, a4⟩ := zv.five
    have hl1 := zv.lt
    go_wp2_with fail
    refine (same_any _ (fun _ => True) _ _ _ (.mk 0 0 ⟨#[]⟩ [] []) _ (Nat.le_refl _) Hr.out RVal.zero).mono ?_
    rintro e w2 ⟨rfl, hb2⟩
    have hw2 := below_via hwv hb2 hwv.size
    clear a0 a1 a2 a3 a4 hl1
    go_wp2_with fail
    refine (values_any _ (HW.out.below hw2)).mono ?_
    rintro e w3 ⟨rfl, hb3⟩
    go_wp2_with fail
    go_ret
    exact ⟨rfl, below_via hw2 hb3 hw2.size⟩
end Go.Proofs.YtkdmcplomfcoeaaDoor
