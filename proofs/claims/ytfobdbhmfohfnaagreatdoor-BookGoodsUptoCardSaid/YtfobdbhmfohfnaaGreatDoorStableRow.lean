/- The walks of the sort of the reader's rows (Row): the stable sort. -/
import Derived.Test.YtfobdbhmfohfnaaGreatDoorProg
import Derived.Test.YtfobdbhmfohfnaaGreatDoorBase
import Derived.Test.YtfobdbhmfohfnaaGreatDoorSymRow
import Derived.Test.YtfobdbhmfohfnaaGreatDoorLates
import Derived.Deep.DrawnRows
import Derived.Deep.Light
import Derived.Deep.DeepCutAuto
set_option linter.all false
set_option maxRecDepth 100000
set_option maxHeartbeats 8000000
namespace Go.Proofs.YtfobdbhmfohfnaaGreatDoor
open Go.RowKit
attribute [local go_sem ↓] Go.wp_at_zero Go.wp_at_succ
variable {L : List TypeC}
theorem symRow_any : ∀ d, SymRowAt (L := L) d
 | 0 => fun _ _ _ _ _ _ _ _ _ _ _ _ h1 h2 _ h4 => absurd h4 (by omega)
 | d + 1 => symRow_succ d (symRow_any d)
theorem insNilRow (w : World) : Calls Tryz.prog 90 #[Value.slice none 0 0, .int .i64 0, .int .i64 0, (Value.func (Fn.func 40) #[] #[])] w (Ret w (.tuple #[])) := by
 go_enter Tryz.func90, Tryz.ntmps90
 go_wp2_with fail
 go_loopw [8] (fun i wr => i = .int .i64 1 ∧ wr = w) (fun _ _ => 0)
 case atStart => exact ⟨rfl, rfl⟩
 case round =>
  obtain ⟨rfl, rfl⟩ := hrel
  go_wp2_with fail
  refine bodyPost_end (results_none rfl _ _ _) rfl ?_
  exact ⟨rfl, Below.refl _ _⟩
theorem stNilRow (w : World) : Calls Tryz.prog 68 #[Value.slice none 0 0, .int .i64 0, (Value.func (Fn.func 40) #[] #[])] w (Ret w (.tuple #[])) := by
 go_enter Tryz.func68, Tryz.ntmps68
 go_wp2_with fail
 go_loopw [7, 8] (fun c7 c8 wr => c7 = .int .i64 0 ∧ c8 = .int .i64 20 ∧ wr = w) (fun _ _ _ => 0)
 case atStart => exact ⟨rfl, rfl, rfl⟩
 case round =>
  obtain ⟨rfl, rfl, rfl⟩ := hrel
  go_wp2_with fail
  refine (insNilRow _).mono ?_
  rintro e w1 ⟨rfl, hb1⟩
  go_wp2_with fail
  go_loopw [6] (fun c6 wr => c6 = .int .i64 20 ∧ wr = w1) (fun _ _ => 0)
  case atStart => exact ⟨rfl, rfl⟩
  case round =>
   obtain ⟨rfl, rfl⟩ := hrel
   go_wp2_with fail
   refine bodyPost_end (results_none rfl _ _ _) rfl ?_
   exact ⟨rfl, hb1⟩
theorem stRow_any (base : Nat) (T : Nat → Prop) (g cap : Nat) (xs : List TypeC) (w : World) (ho : Own base 40 5 RTypeC T w (Value.slice (some ⟨g, 0, none⟩) xs.length cap) xs) (hn : xs.length ≤ 1000000) (hq : xs.Perm L) :
  Calls Tryz.prog 68 #[Value.slice (some ⟨g, 0, none⟩) xs.length cap, .int .i64 xs.length, (Value.func (Fn.func 40) #[] #[])] w (fun e w' => e = .returned (.tuple #[]) ∧ ∃ ys, ys.length = xs.length ∧ (ys.Perm L) ∧ Own base 40 5 RTypeC T w' (Value.slice (some ⟨g, 0, none⟩) xs.length cap) ys ∧ w.grownBy w' (some g) ∧ (xs.length < 20 → ys = sortS ltRow xs)) := by
 have HO := Lib.hid ho
 have HQ := Lib.hid hq
 obtain ⟨n, hnn⟩ : ∃ n, n = xs.length := ⟨_, rfl⟩
 have hins := fun (zs : List TypeC) (W : World) (hl : zs.length = xs.length) (hO : Own base 40 5 RTypeC T W (Value.slice (some ⟨g, 0, none⟩) zs.length cap) zs) (hQ : zs.Perm L) (a b : Nat) (h1 : a ≤ b) (h2 : b ≤ zs.length) => insRow_any base T g cap a b zs W hO h1 h2 (by omega) hQ
 have hsym := fun (zs : List TypeC) (W : World) (hl : zs.length = xs.length) (hO : Own base 40 5 RTypeC T W (Value.slice (some ⟨g, 0, none⟩) zs.length cap) zs) (hQ : zs.Perm L) (a m b : Nat) (h1 : a < m) (h2 : m < b) (h3 : b ≤ zs.length) => symRow_any (b - a) base T g cap zs W hO (by omega) hQ a m b h1 h2 h3 (Nat.le_refl _)
 have Hins := Lib.hid hins
 have Hsym := Lib.hid hsym
 rw [← hnn] at hn HO Hins Hsym ⊢
 have Hnn := Lib.hid hnn
 clear ho hq hnn hins hsym
 go_enter Tryz.func68, Tryz.ntmps68
 go_wp2_with fail
 go_loopw [7, 8] (fun c7 c8 wr => ∃ (u v : Nat) (zs : List TypeC), c7 = .int .i64 u ∧ c8 = .int .i64 v ∧ v = u + 20 ∧ u ≤ n ∧ Hid (n < 20 → u = 0 ∧ zs = xs) ∧ zs.length = n ∧ (zs.Perm L) ∧ Own base 40 5 RTypeC T wr (Value.slice (some ⟨g, 0, none⟩) n cap) zs ∧ w.grownBy wr (some g)) (fun c7 _ _ => n - (intOf c7).toNat)
 case atStart => exact ⟨0, 20, xs, rfl, rfl, rfl, Nat.zero_le _, (show n < 20 → _ from fun _ => ⟨rfl, rfl⟩), Hnn.out.symm, HQ.out, HO.out, grown_below (Below.refl _ _) _⟩
 case round =>
  obtain ⟨u, v, zs, rfl, rfl, huv, hun, hx, hzl, hQ, hO, hG⟩ := hrel
  by_cases hlt : v ≤ n
  ·--[L1
   have hc := Lib.hid (Hins.out zs wr hzl (by rw [hzl]; exact hO) hQ u v (by omega) (by omega))
   rw [hzl] at hc
   have e7 : IntKind.i64.wrap ((v : Int) + 20) = ((v + 20 : Nat) : Int) := by rw [show (v : Int) + 20 = ((v + 20 : Nat) : Int) by omega]; exact IntWalk.i64_in _ (by omega)
   obtain ⟨v2, hv2⟩ : ∃ x, x = v + 20 := ⟨_, rfl⟩
   rw [← hv2] at e7
   have Hv2 := Lib.hid hv2
   have Huv := Lib.hid huv
   clear hQ hO hv2 huv hx
   go_wp2_with fail
   refine hc.out.mono ?_
   rintro e w5 ⟨rfl, ys, hyl, hyQ, hyO, hyG, -⟩
   have HyQ := Lib.hid hyQ
   rw [hzl] at hyO
   have hyG' := grown_via hG hyG (.inl rfl)
   clear hyQ hyG hG hc
   go_wp2_with fail
   go_roundw
   case rel => exact ⟨v, v2, ys, rfl, rfl, Hv2.out, hlt, (show n < 20 → _ from fun h => absurd h (by have := Huv.out; omega)), hyl.trans hzl, HyQ.out, hyO, hyG'⟩
   case measure => go_light; have := Huv.out; simp [intOf]; omega
  ·--[L2
   have hc := Lib.hid (Hins.out zs wr hzl (by rw [hzl]; exact hO) hQ u n hun (by omega))
   rw [hzl] at hc
   clear hQ hO
   go_wp2_with fail
   refine hc.out.mono ?_
   rintro e w5 ⟨rfl, ys, hyl, hyQ, hyO, hyG, hyx⟩
   have HyQ := Lib.hid hyQ
   rw [hzl] at hyO
   have hyG' := grown_via hG hyG (.inl rfl)
   have Hyx : Hid (n < 20 → ys = sortS ltRow xs) := fun h => by
    obtain ⟨hu, hz⟩ := hx.out h
    rw [hyx hu hzl.symm, hz]
   have Hyl := Lib.hid (hyl.trans hzl)
   clear hyQ hyG hG hc hyx hx hyl hzl huv hlt hun zs
   go_wp2_with fail
   go_loopw [6] (fun c6 wr => ∃ (bs : Nat) (zs : List TypeC), c6 = .int .i64 bs ∧ 20 ≤ bs ∧ Hid (n < 20 → zs = sortS ltRow xs) ∧ zs.length = n ∧ (zs.Perm L) ∧ Own base 40 5 RTypeC T wr (Value.slice (some ⟨g, 0, none⟩) n cap) zs ∧ w.grownBy wr (some g)) (fun c6 _ => n - (intOf c6).toNat)
   case atStart => exact ⟨20, ys, rfl, Nat.le_refl _, Hyx, Hyl.out, HyQ.out, hyO, hyG'⟩
   case round =>
    clear Hyx Hyl HyQ hyO hyG' ys
    obtain ⟨bs, zs, rfl, hbs, hx, hzl, hQ, hO, hG⟩ := hrel
    by_cases hlt : bs < n
    ·have Hbs := Lib.hid hbs
     have HQz := Lib.hid hQ
     have e2 : IntKind.i64.wrap (2 * (bs : Int)) = ((2 * bs : Nat) : Int) := by rw [show 2 * (bs : Int) = ((2 * bs : Nat) : Int) by omega]; exact IntWalk.i64_in _ (by omega)
     obtain ⟨b2, hb2⟩ : ∃ x, x = 2 * bs := ⟨_, rfl⟩
     rw [← hb2] at e2
     have Hb2 := Lib.hid hb2
     have Hlt := Lib.hid hlt
     clear hQ hbs hx hb2
     go_wp2_with fail
     obtain ⟨zs0, hzs0⟩ : ∃ z, z = zs := ⟨_, rfl⟩
     rw [← hzs0] at hzl HQz hO
     go_loopw [7, 8] (fun c7 c8 wr => ∃ (u v : Nat) (zs : List TypeC), c7 = .int .i64 u ∧ c8 = .int .i64 v ∧ v = u + b2 ∧ u ≤ n ∧ zs.length = n ∧ (zs.Perm L) ∧ Own base 40 5 RTypeC T wr (Value.slice (some ⟨g, 0, none⟩) n cap) zs ∧ w.grownBy wr (some g)) (fun c7 _ _ => n - (intOf c7).toNat)
     case atStart => exact ⟨0, b2, zs0, rfl, rfl, (Nat.zero_add _).symm, Nat.zero_le _, hzl, HQz.out, hO, hG⟩
     case round =>
      clear hO hG hzl HQz hzs0 zs0 zs
      obtain ⟨u, v, zs, rfl, rfl, huv, hun, hzl, hQ, hO, hG⟩ := hrel
      have e3 : IntKind.i64.wrap ((u : Int) + bs) = ((u + bs : Nat) : Int) := by rw [show (u : Int) + bs = ((u + bs : Nat) : Int) by omega]; exact IntWalk.i64_in _ (by omega)
      obtain ⟨um, hum⟩ : ∃ x, x = u + bs := ⟨_, rfl⟩
      rw [← hum] at e3
      have hbo := Hbs.out
      have hb2o := Hb2.out
      by_cases hlt2 : v ≤ n
      ·have hc := Lib.hid (Hsym.out zs wr hzl (by rw [hzl]; exact hO) hQ u um v (by omega) (by omega) (by omega))
       rw [hzl] at hc
       have e7 : IntKind.i64.wrap ((v : Int) + b2) = ((v + b2 : Nat) : Int) := by rw [show (v : Int) + b2 = ((v + b2 : Nat) : Int) by omega]; exact IntWalk.i64_in _ (by omega)
       obtain ⟨v2, hv2⟩ : ∃ x, x = v + b2 := ⟨_, rfl⟩
       rw [← hv2] at e7
       have Hv2 := Lib.hid hv2
       have Huv := Lib.hid (show v = u + b2 ∧ u < v by omega)
       clear hQ hO hv2 huv hum hbo hb2o
       go_wp2_with fail
       refine hc.out.mono ?_
       rintro e w5 ⟨rfl, ys, hyl, hyQ, hyO, hyG⟩
       have HyQ := Lib.hid hyQ
       rw [hzl] at hyO
       have hyG' := grown_via hG hyG (.inl rfl)
       clear hyQ hyG hG hc
       go_wp2_with fail
       go_roundw
       case rel => exact ⟨v, v2, ys, rfl, rfl, Hv2.out, hlt2, hyl.trans hzl, HyQ.out, hyO, hyG'⟩
       case measure => go_light; have := Huv.out; simp [intOf]; omega
      ·have e6 : IntKind.i64.wrap ((bs : Int) * 2) = (b2 : Int) := by rw [show (bs : Int) * 2 = (b2 : Int) by omega]; exact IntWalk.i64_in _ (by omega)
       have HQz := Lib.hid hQ
       by_cases hmn : um < n
       ·have hc := Lib.hid (Hsym.out zs wr hzl (by rw [hzl]; exact hO) hQ u um n (by omega) hmn (by omega))
        rw [hzl] at hc
        clear hQ hO hum hbo hb2o huv
        go_wp2_with fail
        refine hc.out.mono ?_
        rintro e w5 ⟨rfl, ys, hyl, hyQ, hyO, hyG⟩
        have HyQ := Lib.hid hyQ
        rw [hzl] at hyO
        have hyG' := grown_via hG hyG (.inl rfl)
        clear hyQ hyG hG hc
        go_wp2_with fail
        go_roundw
        case rel => exact ⟨b2, ys, rfl, by have := Hbs.out; have := Hb2.out; omega, (show n < 20 → _ from fun h => absurd h (by have := Hbs.out; have := Hlt.out; omega)), hyl.trans hzl, HyQ.out, hyO, hyG'⟩
        case measure => go_light; have := Hbs.out; have := Hb2.out; have := Hlt.out; simp [intOf]; omega
       ·clear hQ hum hbo hb2o huv
        go_wp2_with fail
        go_roundw
        case rel => exact ⟨b2, zs, rfl, by have := Hbs.out; have := Hb2.out; omega, (show n < 20 → _ from fun h => absurd h (by have := Hbs.out; have := Hlt.out; omega)), hzl, HQz.out, hO, hG⟩
        case measure => go_light; have := Hbs.out; have := Hb2.out; have := Hlt.out; simp [intOf]; omega
    ·have HQz := Lib.hid hQ
     clear hQ
     go_wp2_with fail
     refine bodyPost_end (results_none rfl _ _ _) rfl ?_
     exact ⟨rfl, zs, hzl, HQz.out, hO, hG, hx.out⟩
theorem sortStableRow_any (base : Nat) (T : Nat → Prop) (v : Value) (xs : List TypeC) (w : World) (ho : Own base 40 5 RTypeC T w v xs) (hn : xs.length ≤ 1000000) (hq : xs.Perm L) :
  Calls Tryz.prog 39 #[v, (Value.func (Fn.func 40) #[] #[])] w (fun e w' => e = .returned (.tuple #[]) ∧ ∃ ys, ys.length = xs.length ∧ (ys.Perm L) ∧ Own base 40 5 RTypeC T w' v ys ∧ w.grownBy w' v.ownBlock ∧ (xs.length < 20 → ys = sortS ltRow xs)) := by
 obtain ⟨A, cap, rfl, hlc⟩ := ho.form
 cases hA : A with
 | none =>
  subst hA
  have hx : xs = [] := by
   cases hxs : xs with
   | nil => rfl
   | cons x l =>
    obtain ⟨g, hg, _⟩ := ho.there_ (by rw [hxs]; simp)
    cases hg
  subst hx
  have hc0 : cap = 0 := by
   obtain ⟨css, h1, _⟩ := ho
   rcases h1.2 with ⟨hv, _⟩ | ⟨_, _, _, hv, _⟩
   ·injection hv
   ·injection hv with hv; cases hv
  subst hc0
  have HO := Lib.hid ho
  have HQ := Lib.hid hq
  clear ho hq
  go_enter Tryz.func39, Tryz.ntmps39
  go_wp2_with fail
  refine (stNilRow _).mono ?_
  rintro e w1 ⟨rfl, hb1⟩
  go_wp2_with fail
  refine bodyPost_end (results_none rfl _ _ _) rfl ?_
  exact ⟨rfl, [], rfl, HQ.out, HO.out.below RTypeC.fair hb1, grown_below hb1 _, fun _ => rfl⟩
 | some ad =>
  subst hA
  obtain ⟨g, rfl⟩ : ∃ g, ad = ⟨g, 0, none⟩ := by
   obtain ⟨css, h1, _⟩ := ho
   rcases h1.2 with ⟨hv, _⟩ | ⟨g, _, _, hv, _⟩
   ·injection hv with hv; cases hv
   ·injection hv with hv; injection hv with hv; exact ⟨g, hv⟩
  have hst := Lib.hid (stRow_any base T g cap xs w ho hn hq)
  clear ho hq
  go_enter Tryz.func39, Tryz.ntmps39
  go_wp2_with fail
  refine hst.out.mono ?_
  rintro e w1 ⟨rfl, ys, h1, h2, h3, h4, h5⟩
  have H2 := Lib.hid h2
  have H5 := Lib.hid h5
  clear h2 h5
  go_wp2_with fail
  refine bodyPost_end (results_none rfl _ _ _) rfl ?_
  exact ⟨rfl, ys, h1, H2.out, h3, h4, H5.out⟩
end Go.Proofs.YtfobdbhmfohfnaaGreatDoor
