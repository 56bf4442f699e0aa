/- The walk of the statement ValueDecodes. -/
import Derived.Test.YtockolmdffehnaaDoorRefDecV
import Derived.Test.YtockolmdffehnaaDoorRefCopy
import Derived.Test.YtockolmdffehnaaDoorRefSame
import Derived.Test.YtockolmdffehnaaDoorRefValues
namespace Go.Proofs.YtockolmdffehnaaDoor
open Go.RowKit
set_option maxRecDepth 100000 in
set_option maxHeartbeats 4000000 in
theorem valueDecodes_any (S : Nat → Prop) (vb : Value) (b : BookD) (name s : ByteArray) (w : World) (hb0 : RSl 5 96 RType S w [vb] b) (hW : Words w) (hM : MaxL w) (hB : BookOk b) (hsm : BookSmall b) (hs : s.size ≤ maxLen) :
    Calls Tryd.prog 4 #[.agg #[vb], .string name, .string s] w (Ret w (.bool true)) := by
  obtain ⟨A, cap, rfl, hlc, hlb⟩ := hb0.form
  have hde : ∀ S1 A' c' W, RSl 5 96 RType S1 W [.slice A' b.length c'] b → Words W → Calls Tryd.prog 11 #[.agg #[.slice A' b.length c'], .string name, .string s] W (ValCode W (DecodeF b name (bytes s))) := fun S1 A' c' W h0 h2 => vDecode_any S1 _ b name s W h0 h2 hB hs
  have hdv : ∀ W, RSl 5 96 RType S W [.slice A b.length cap] b → MaxL W → Calls Tryd.prog 12 #[.agg #[.slice A b.length cap], .string name, .string s] W (ValCode W (DecodeF b name (bytes s))) := fun W h0 h2 => decodeValue_any S _ b name s W h0 h2 hB hsm hs
  have hss : ∀ S1 S2 (x : ValueD) cs cs' W, RVal S1 W cs x → RVal S2 W cs' x → Calls Tryd.prog 13 #[.agg cs.toArray, .agg cs'.toArray] W (Ret W (.bool true)) := fun S1 S2 x cs cs' W h1 h2 => same_anyR S1 S2 _ cs cs' x W (Nat.le_refl _) h1 h2
  obtain ⟨⟨⟨vk, vn, vs, vids, vls⟩, dc⟩, hT⟩ : ∃ r, r = DecodeF b name (bytes s) := ⟨_, rfl⟩
  rw [← hT] at hde hdv
  clear hT hB hsm hs
  have HB := Lib.hid hb0
  have HW := Lib.hid hW
  have HM := Lib.hid hM
  have HD := Lib.hid hde
  have HV := Lib.hid hdv
  have HS := Lib.hid hss
  obtain ⟨x1, x3⟩ := boxes1 w [.slice A b.length cap] 24
  clear hb0 hW hM hde hdv hss
  go_enter Tryd.func4, Tryd.ntmps4
  go_wp2_with fail
  refine (copyBook_any S _ b _ ((RSl.fair RType.fair).below HB.out x3)).mono ?_
  rintro e w1 ⟨A', c', rfl, hrb, hb1⟩
  replace x1 := x1.below hb1 x1.lt
  replace x3 := below_via x3 hb1 x3.size
  clear hb1
  go_wp2_with fail
  refine (HD.out _ _ _ _ hrb (HW.out.below x3)).mono ?_
  rintro e w2 ⟨cs2, rfl, hr2, hb2⟩
  obtain ⟨D1, f1, D2, f2, rfl, -, -⟩ := hr2.parts
  dsimp only at hr2 ⊢
  have hw2 := below_via x3 hb2 x3.size
  have hw3 := hw2.alloc hw2.size (.cells #[.int .i64 vk, .int .i64 vn, .string vs, .slice D1 vids.length f1, .slice D2 vls.length f2] 28)
  have y1 := (x1.below hb2 x1.lt).alloc (.cells #[.int .i64 vk, .int .i64 vn, .string vs, .slice D1 vids.length f1, .slice D2 vls.length f2] 28)
  have yv : Box (w2.alloc (.cells #[.int .i64 vk, .int .i64 vn, .string vs, .slice D1 vids.length f1, .slice D2 vls.length f2] 28)) w2.heap.size 28 [.int .i64 vk, .int .i64 vn, .string vs, .slice D1 vids.length f1, .slice D2 vls.length f2] := Box.new w2 _ _
  have HR1 := Lib.hid (RVal.fair.keep hr2 (Keep.alloc _ w2 (.cells #[.int .i64 vk, .int .i64 vn, .string vs, .slice D1 vids.length f1, .slice D2 vls.length f2] 28)))
  have s0 : (w2.alloc (.cells #[.int .i64 vk, .int .i64 vn, .string vs, .slice D1 vids.length f1, .slice D2 vls.length f2] 28)).cell? ⟨w.heap.size, 0, none⟩ = some (.slice A b.length cap) := y1.cell 0
  have hl1 := y1.lt
  clear hr2 hb2 hrb x1 x3 hw2
  go_upto_region 2 with fail
  generalize hWq : w2.alloc (.cells #[.int .i64 vk, .int .i64 vn, .string vs, .slice D1 vids.length f1, .slice D2 vls.length f2] 28) = W2 at *
  generalize hXq : w2.heap.size = X1 at *
  clear hWq hXq
  go_wp2_with fail
  refine (HV.out _ ((RSl.fair RType.fair).below HB.out hw3) (HM.out.below hw3)).mono ?_
  rintro e w4 ⟨cs4, rfl, hr4, hb4⟩
  obtain ⟨E1, g1, E2, g2, rfl, -, -⟩ := hr4.parts
  dsimp only at hr4 ⊢
  have hw4 := below_via hw3 hb4 hw3.size
  have hw5 := hw4.alloc hw4.size (.cells #[.int .i64 vk, .int .i64 vn, .string vs, .slice E1 vids.length g1, .slice E2 vls.length g2] 28)
  have zv := (yv.below hb4 yv.lt).alloc (.cells #[.int .i64 vk, .int .i64 vn, .string vs, .slice E1 vids.length g1, .slice E2 vls.length g2] 28)
  have z2 : Box (w4.alloc (.cells #[.int .i64 vk, .int .i64 vn, .string vs, .slice E1 vids.length g1, .slice E2 vls.length g2] 28)) w4.heap.size 28 [.int .i64 vk, .int .i64 vn, .string vs, .slice E1 vids.length g1, .slice E2 vls.length g2] := Box.new w4 _ _
  have HR2 := Lib.hid (RVal.fair.keep hr4 (Keep.alloc _ w4 (.cells #[.int .i64 vk, .int .i64 vn, .string vs, .slice E1 vids.length g1, .slice E2 vls.length g2] 28)))
  replace HR1 := Lib.hid (RVal.fair.keep (RVal.fair.below HR1.out hb4) (Keep.alloc _ w4 (.cells #[.int .i64 vk, .int .i64 vn, .string vs, .slice E1 vids.length g1, .slice E2 vls.length g2] 28)))
  clear s0 hl1 hr4 hb4 yv y1 hw3 hw4
  go_upto_region 3 with fail
  generalize hWq : w4.alloc (.cells #[.int .i64 vk, .int .i64 vn, .string vs, .slice E1 vids.length g1, .slice E2 vls.length g2] 28) = W4 at *
  generalize hXq : w4.heap.size = X2 at *
  clear hWq hXq
  obtain ⟨u0, u1, u2, u3, u4⟩ := zv.five
  have hlv := zv.lt
  obtain ⟨v0, v1, v2, v3, v4⟩ := z2.five
  have hl2 := z2.lt
  clear zv z2
  go_wp2_with fail
  refine (HS.out _ _ _ _ _ _ HR1.out HR2.out).mono ?_
  rintro e w6 ⟨rfl, hb6⟩
  have hw6 := below_via hw5 hb6 hw5.size
  have hcc : (dc == dc) = true := by simp
  clear u0 u1 u2 u3 u4 hlv v0 v1 v2 v3 v4 hl2 hb6 HR1 HR2 hw5
  go_wp2_with fail
  refine (values_any _ (HW.out.below hw6)).mono ?_
  rintro e w7 ⟨rfl, hb7⟩
  go_wp2_with fail
  go_ret
  exact ⟨rfl, below_via hw6 hb7 hw6.size⟩
end Go.Proofs.YtockolmdffehnaaDoor
