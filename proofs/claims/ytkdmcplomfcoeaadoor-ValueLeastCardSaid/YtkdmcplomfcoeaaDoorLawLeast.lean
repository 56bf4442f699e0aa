/- The walk of the statement ValueLeast. -/
import Derived.Test.YtkdmcplomfcoeaaDoorLawValues
namespace Go.Proofs.YtkdmcplomfcoeaaDoor
open Go.RowKit

set_option maxRecDepth 100000 in
set_option maxHeartbeats 4000000 in
theorem valueLeast_any (S : Nat → Prop) (vb : Value) (b : BookD) (name : ByteArray) (w : World) (hb0 : RSl 5 96 RType S w [vb] b) (hW : Words w) (hB : BookOk b) :
    Calls Tryd.prog 5 #[.agg #[vb], .string name] w (Ret w (.bool true)) := by
  obtain ⟨A, cap, rfl, hlc, hlb⟩ := hb0.form
  have hL := fun W (h0 : RSl 5 96 RType S W [.slice A b.length cap] b) (h1 : Words W) => vLeast_any S _ b name W h0 h1 hB
  have hD := fun W (h0 : RSl 5 96 RType S W [.slice A b.length cap] b) (h1 : Words W) => vDecode_any S _ b name ⟨#[]⟩ W h0 h1 hB (by decide)
  have hM := fun W (h0 : RSl 5 96 RType S W [.slice A b.length cap] b) => leastOf4_any S _ b name W h0
  have hp := value_least (b := b) (name := name)
  rw [show bytes ⟨#[]⟩ = [] from rfl] at hD
  obtain ⟨LF, hLF⟩ : ∃ LF, LF = LeastF b name := ⟨_, rfl⟩
  obtain ⟨DF, hDF⟩ : ∃ DF, DF = DecodeF b name [] := ⟨_, rfl⟩
  obtain ⟨mf, hmf⟩ : ∃ mf, mf = leastF b 4 name := ⟨_, rfl⟩
  have hty : TypedF b name LF.1 = 0 → ∀ W S' cs, RSl 5 96 RType S W [.slice A b.length cap] b → Words W → RVal S' W cs LF.1 → Calls Tryd.prog 11 #[.agg #[.slice A b.length cap], .string name, .agg cs.toArray] W (Ret W (.int .i64 0)) := fun h W S' cs h0 h1 h2 => by
    have ho := typed_okV h
    have := vTyped_any S S' _ b name cs LF.1 W h0 h2 h1 hB ho.1 (by omega) (by omega)
    rw [h] at this; exact this
  rw [← hLF] at hL hp
  rw [← hDF] at hD hp
  rw [← hmf] at hM hp
  have HB := Lib.hid hb0
  have HW := Lib.hid hW
  have HL := Lib.hid hL
  have HD := Lib.hid hD
  have HM := Lib.hid hM
  have HP := Lib.hid hp
  have HT := Lib.hid hty
  obtain ⟨x1, x2⟩ := boxes1 w [.slice A b.length cap] 24
  clear hb0 hW hB hL hD hM hp hLF hDF hmf hty
  go_enter Tryd.func5, Tryd.ntmps5
  go_wp2_with fail
  refine (HL.out _ ((RSl.fair RType.fair).below HB.out x2) (HW.out.below x2)).mono ?_
  rintro e w1 ⟨cs1, rfl, hr1, hb1⟩
  obtain ⟨v, c⟩ := LF
  dsimp only at hr1 HP HT ⊢
  have hw1 := below_via x2 hb1 x2.size
  have y1 := x1.below hb1 x1.lt
  obtain ⟨⟨vk, vn, vs, vids, vls⟩, hve⟩ : ∃ v', v' = v := ⟨_, rfl⟩
  rw [← hve] at hr1 HP HT
  clear hve
  obtain ⟨D1, f1, D2, f2, rfl, -, -⟩ := hr1.parts
  have hwv := hw1.alloc hw1.size (.cells [.int .i64 vk, .int .i64 vn, .string vs, .slice D1 vids.length f1, .slice D2 vls.length f2].toArray 28)
  have z1 := y1.alloc (.cells [.int .i64 vk, .int .i64 vn, .string vs, .slice D1 vids.length f1, .slice D2 vls.length f2].toArray 28)
  have zv : Box (w1.alloc (.cells [.int .i64 vk, .int .i64 vn, .string vs, .slice D1 vids.length f1, .slice D2 vls.length f2].toArray 28)) w1.heap.size 28 [.int .i64 vk, .int .i64 vn, .string vs, .slice D1 vids.length f1, .slice D2 vls.length f2] := Box.new w1 _ _
  have Hr := Lib.hid (RVal.fair.keep hr1 (Keep.alloc _ w1 (.cells [.int .i64 vk, .int .i64 vn, .string vs, .slice D1 vids.length f1, .slice D2 vls.length f2].toArray 28)))
  clear x1 x2 hb1 y1 hr1 HL
  by_cases hc : c = 0
  · subst hc
    obtain ⟨t1, t2, t3, t4, t5⟩ := HP.out rfl
    have Ht1 := Lib.hid (HT.out t1)
    have Ht3 := Lib.hid t3
    have Ht45 := Lib.hid (And.intro t4 t5)
    subst t2
    clear HP HT t1 t3 t4 t5
    go_wp2_with fail
    refine (values_any _ (HW.out.below hwv)).mono ?_
    rintro e w2 ⟨rfl, hb2⟩
    have hw2 := below_via hwv hb2 hwv.size
    have z2 := z1.below hb2 z1.lt
    have zv2 := zv.below hb2 zv.lt
    have Hr2 := Lib.hid (RVal.fair.below Hr.out hb2)
    have c0 : w2.cell? ⟨w.heap.size, 0, none⟩ = some (.slice A b.length cap) := z2.cell 0
    have hl0 := z2.lt
    clear z1 zv hwv hb2 Hr hw1
    go_wp2_with fail
    refine (HD.out _ ((RSl.fair RType.fair).below HB.out hw2) (HW.out.below hw2)).mono ?_
    rintro e w3 ⟨cs3, rfl, hr3, hb3⟩
    dsimp only at hr3 ⊢
    obtain ⟨E1, g1, E2, g2, rfl, -, -⟩ := hr3.parts
    have hw3 := below_via hw2 hb3 hw2.size
    have z3 := (z2.below hb3 z2.lt).alloc (.cells [.int .i64 vk, .int .i64 vn, .string vs, .slice E1 vids.length g1, .slice E2 vls.length g2].toArray 28)
    have zv3 := (zv2.below hb3 zv2.lt).alloc (.cells [.int .i64 vk, .int .i64 vn, .string vs, .slice E1 vids.length g1, .slice E2 vls.length g2].toArray 28)
    have zu3 : Box (w3.alloc (.cells [.int .i64 vk, .int .i64 vn, .string vs, .slice E1 vids.length g1, .slice E2 vls.length g2].toArray 28)) w3.heap.size 28 [.int .i64 vk, .int .i64 vn, .string vs, .slice E1 vids.length g1, .slice E2 vls.length g2] := Box.new w3 _ _
    have hw4 := hw3.alloc hw3.size (.cells [.int .i64 vk, .int .i64 vn, .string vs, .slice E1 vids.length g1, .slice E2 vls.length g2].toArray 28)
    have Hr4 := Lib.hid (RVal.fair.keep (RVal.fair.below Hr2.out hb3) (Keep.alloc _ w3 (.cells [.int .i64 vk, .int .i64 vn, .string vs, .slice E1 vids.length g1, .slice E2 vls.length g2].toArray 28)))
    have Hu4 := Lib.hid (RVal.fair.keep hr3 (Keep.alloc _ w3 (.cells [.int .i64 vk, .int .i64 vn, .string vs, .slice E1 vids.length g1, .slice E2 vls.length g2].toArray 28)))
    have a1 := (zv2.below hb3 zv2.lt).five
    have hl1 := (zv2.below hb3 zv2.lt).lt
    obtain ⟨a0, a1, a2, a3, a4⟩ := a1
    clear z2 zv2 hb3 hr3 c0 hl0 Hr2 hw2 hw3
    go_wp2_with fail
    refine (size_any _ _ _ (.mk vk vn vs vids vls) _ (Nat.le_refl _) Hr4.out (by have := Ht45.out; omega) (by have := Ht45.out; omega)).mono ?_
    rintro e w5 ⟨rfl, hb5⟩
    rw [Ht3.out]
    have hw5 := below_via hw4 hb5 hw4.size
    have z5 := z3.below hb5 z3.lt
    have zv5 := zv3.below hb5 zv3.lt
    have zu5 := zu3.below hb5 zu3.lt
    have Hr5 := Lib.hid (RVal.fair.below Hr4.out hb5)
    have Hu5 := Lib.hid (RVal.fair.below Hu4.out hb5)
    have c0 : w5.cell? ⟨w.heap.size, 0, none⟩ = some (.slice A b.length cap) := z5.cell 0
    have hl0 := z5.lt
    clear a0 a1 a2 a3 a4 hl1
    obtain ⟨a0, a1, a2, a3, a4⟩ := zv5.five
    have hl1 := zv5.lt
    clear z3 zv3 zu3 hb5 Hr4 Hu4 hw4
    go_wp2_with fail
    refine (Ht1.out _ _ _ ((RSl.fair RType.fair).below HB.out hw5) (HW.out.below hw5) Hr5.out).mono ?_
    rintro e w6 ⟨rfl, hb6⟩
    have hw6 := below_via hw5 hb6 hw5.size
    have z6 := z5.below hb6 z5.lt
    have zv6 := zv5.below hb6 zv5.lt
    have zu6 := zu5.below hb6 zu5.lt
    have Hr6 := Lib.hid (RVal.fair.below Hr5.out hb6)
    have Hu6 := Lib.hid (RVal.fair.below Hu5.out hb6)
    clear a0 a1 a2 a3 a4 hl1 c0 hl0
    obtain ⟨a0, a1, a2, a3, a4⟩ := zv6.five
    have hl1 := zv6.lt
    obtain ⟨b0, b1, b2, b3, b4⟩ := zu6.five
    have hl2 := zu6.lt
    clear z5 zv5 zu5 hb6 Hr5 Hu5 hw5
    go_wp2_with fail
    refine (same_any _ _ _ _ _ (.mk vk vn vs vids vls) _ (Nat.le_refl _) Hr6.out Hu6.out).mono ?_
    rintro e w7 ⟨rfl, hb7⟩
    have hw7 := below_via hw6 hb7 hw6.size
    have z7 := z6.below hb7 z6.lt
    have c0 : w7.cell? ⟨w.heap.size, 0, none⟩ = some (.slice A b.length cap) := z7.cell 0
    have hl0 := z7.lt
    clear a0 a1 a2 a3 a4 hl1 b0 b1 b2 b3 b4 hl2 z6 zv6 zu6 hb7 Hr6 Hu6 hw6
    go_wp2_with fail
    refine (HM.out _ ((RSl.fair RType.fair).below HB.out hw7)).mono ?_
    rintro e w8 ⟨rfl, hb8⟩
    go_wp2_with fail
    go_ret
    exact ⟨ret_b (by simp), below_via hw7 hb8 hw7.size⟩
  · have hcb : (c != 0) = true := by simpa using hc
    clear hc
    go_wp2_with fail
    refine (values_any _ (HW.out.below hwv)).mono ?_
    rintro e w2 ⟨rfl, hb2⟩
    go_wp2_with fail
    go_ret
    exact ⟨rfl, below_via hwv hb2 hwv.size⟩
end Go.Proofs.YtkdmcplomfcoeaaDoor
