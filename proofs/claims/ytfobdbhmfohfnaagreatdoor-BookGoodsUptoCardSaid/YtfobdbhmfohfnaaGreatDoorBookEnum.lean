/- The walk of book.enum. -/
import Derived.Test.YtfobdbhmfohfnaaGreatDoorWalks
set_option linter.all false
set_option maxRecDepth 100000
set_option maxHeartbeats 8000000
namespace Go.Proofs.YtfobdbhmfohfnaaGreatDoor
open Go.RowKit
def EnumAt (t : TypeD) (i : Nat) (h : i < t.items.length) : Prop := namedF t.items[i].name = true ∧ -1099511627776 ≤ t.items[i].n ∧ t.items[i].n ≤ 1099511627776 ∧ (∀ (_ : 0 < i), t.items[i - 1].n < t.items[i].n) ∧ ∀ j (_ : j < i), t.items[i].name ≠ t.items[j].name
theorem enum_no {t : TypeD} {i : Nat} (h : i < t.items.length) (hn : ¬ EnumAt t i h) : enumF t = false := by
 unfold enumF
 rw [decide_eq_false_iff_not]
 intro hp
 exact hn (hp.1 i h)
theorem enum_end {t : TypeD} (h : ∀ i (h : i < t.items.length), EnumAt t i h) : enumF t = decide (1 ≤ t.items.length ∧ t.items.length ≤ 6 ∧ t.fields.length = 0 ∧ t.gone.length = 0) := by
 unfold enumF
 exact decide_eq_decide.2 ⟨fun hp => hp.2, fun hp => ⟨h, hp⟩⟩
theorem enum_any (S : Nat → Prop) (cs : List Value) (t : TypeD) (w : World) (ht : RType S w cs t) (hW : Words w) (hsz : ∀ x ∈ t.items, x.name.size ≤ 140737488351232) :
  Calls Tryz.prog 33 #[.agg cs.toArray] w (Ret w (.bool (enumF t))) := by
 obtain ⟨A1, k1, A2, k2, A3, k3, rfl, hf, hgn, hi⟩ := ht.parts
 obtain ⟨Ai, ki, hii, hilc, hilb⟩ := hi.form
 obtain ⟨Af, kf, hff, hflc, hflb⟩ := hf.form
 obtain ⟨Ag, kg, hgg, hglc, hglb⟩ := hgn.form
 have HI := Lib.hid hi
 have HW := Lib.hid hW
 have HSZ := Lib.hid hsz
 have hki : t.items.length ≤ k3 := by injection hii; omega
 clear ht hi hf hgn hW hsz hii hff hgg
 go_enter Tryz.func33, Tryz.ntmps33
 go_wp2_with fail
 go_loopw [10] (fun i wr => ∃ k : Nat, i = .int .i64 k ∧ k ≤ t.items.length ∧ Hid (∀ j (h : j < t.items.length), j < k → EnumAt t j h) ∧
   Box wr w.heap.size 40 [.string t.name, .bool t.enum, .slice A1 t.fields.length k1, .slice A2 t.gone.length k2, .slice A3 t.items.length k3] ∧ Below w.heap.size w wr) (fun i _ => t.items.length - (intOf i).toNat)
 case atStart => exact ⟨0, rfl, by omega, (fun j _ hj => absurd hj (by omega) : ∀ j (h : j < t.items.length), j < 0 → EnumAt t j h), Box.new w _ _, (Below.refl _ _).alloc (Nat.le_refl _) _⟩
 case round =>
  obtain ⟨k, rfl, hk, he, hbx, hb⟩ := hrel
  have hltw : w.heap.size < wr.heap.size := hbx.lt
  have b4 : wr.cell? ⟨w.heap.size, 4, none⟩ = some (.slice A3 t.items.length k3) := hbx.cell 4
  by_cases hlt : k < t.items.length
  ·obtain ⟨g, o, rfl, hS, hg⟩ := HI.out.base (by omega)
   have hc := (HI.out.flat (enc := itemCells) hlt).keep (Keep.of_below hb) hS
   have hgw : g < wr.heap.size := Nat.lt_of_lt_of_le hg hb.size
   have hxs := HSZ.out t.items[k] (List.getElem_mem hlt)
   have hno0 : ¬ EnumAt t k hlt → enumF t = false := enum_no hlt
   unfold EnumAt at hno0
   have hpv : 0 < k → wr.cell? ⟨g, o + (k - 1) * 2 + 1, none⟩ = some (.int .i64 t.items[k - 1].n) := fun h0 =>
    ((HI.out.flat (enc := itemCells) (show k - 1 < t.items.length by omega)).keep (Keep.of_below hb) hS).at_ 1 rfl
   obtain ⟨x, hxe⟩ : ∃ x, x = t.items[k] := ⟨_, rfl⟩
   rw [← hxe] at hc hxs hno0
   obtain ⟨xname, xn⟩ := x
   dsimp only at hxs hno0
   have q0 : wr.cell? ⟨g, o + k * 2, none⟩ = some (.string xname) := hc.at_ 0 rfl
   have q1 : wr.cell? ⟨g, o + k * 2 + 1, none⟩ = some (.int .i64 xn) := hc.at_ 1 rfl
   have Hxe := Lib.hid hxe
   clear hc hxe
   have hwa := hb.alloc hb.size (.cells #[.string xname, .int .i64 xn] 60)
   have hbt := hbx.alloc (.cells #[.string xname, .int .i64 xn] 60)
   have HWn := Lib.hid (HW.out.below hwa)
   by_cases hnm : namedF xname = true
   ·by_cases hlo : xn < -1099511627776
    ·have Hno := Lib.hid (hno0 (fun h => by have := h.2.1; omega))
     have d1 : decide (xn < -1099511627776) = true := by simpa using hlo
     clear hno0 hpv
     go_wp2_with fail
     go_quiet ((first | (go_at_call 25; exact named_quiet _ _ _ hnm (by omega) HWn.out) | (go_at_call 57; exact number_quiet _ _ _ hid)))
     go_wp2
     go_ret
     exact ⟨ret_b Hno.out.symm, below_drewN hwa _⟩
    ·have d1 : decide (xn < -1099511627776) = false := by simpa using hlo
     by_cases hhi : 1099511627776 < xn
     ·have Hno := Lib.hid (hno0 (fun h => by have := h.2.2.1; omega))
      have d2 : decide (xn > 1099511627776) = true := by simpa using hhi
      clear hno0 hpv
      go_wp2_with fail
      go_quiet ((first | (go_at_call 25; exact named_quiet _ _ _ hnm (by omega) HWn.out) | (go_at_call 57; exact number_quiet _ _ _ hid)))
      go_wp2
      go_ret
      exact ⟨ret_b Hno.out.symm, below_drewN hwa _⟩
     ·have d2 : decide (xn > 1099511627776) = false := by simpa using hhi
      by_cases hk0 : 0 < k
      ·have hpvk := hpv (by omega)
       clear hpv
       obtain ⟨y, hye⟩ : ∃ y, y = t.items[k - 1].n := ⟨_, rfl⟩
       rw [← hye] at hpvk
       have e1 : IntKind.i64.wrap ((k : Int) - 1) = (k : Int) - 1 := IntWalk.i64_in _ (by omega)
       have e2 : ((k : Int) - 1).toNat = k - 1 := by omega
       have e3 : decide (0 < k) = true := by simp; omega
       by_cases hyx : y < xn
       ·have e4 : decide (y ≥ xn) = false := by simp; omega
        have hok : (∀ q (h : q < t.items.length), q < k → xname ≠ t.items[q].name) → EnumAt t k hlt := fun h => by
         unfold EnumAt; rw [← Hxe.out]; dsimp only; exact ⟨hnm, by omega, by omega, fun _ => by rw [← hye]; exact hyx, fun j hj => h j (by omega) hj⟩
        have hbad : ∀ q (h : q < t.items.length), q < k → xname = t.items[q].name → enumF t = false := fun q _ hqk h => hno0 fun hh => hh.2.2.2.2 q hqk h
        have Hye := Lib.hid hye
        clear hye
        have Hok := Lib.hid hok
        have Hbad := Lib.hid hbad
        clear hno0 hok hbad
        go_wp2_with fail
        go_quiet ((first | (go_at_call 25; exact named_quiet _ _ _ hnm (by omega) HWn.out) | (go_at_call 57; exact number_quiet _ _ _ hid)))
        have hwq := below_drewN hwa nq
        have hbq : Box ((wr.alloc (.cells #[.string xname, .int .i64 xn] 60)).drewN nq) w.heap.size 40 _ := hbt.drewN nq
        have hxq : Box ((wr.alloc (.cells #[.string xname, .int .i64 xn] 60)).drewN nq) wr.heap.size 60 [.string xname, .int .i64 xn] := (Box.new wr _ _).drewN nq
        clear hwa hbt q0 q1 d1 d2 e3 hnm hlo hhi b4 HWn
        have c4 : ((wr.alloc (.cells #[.string xname, .int .i64 xn] 60)).drewN nq).cell? ⟨w.heap.size, 4, none⟩ = some (.slice (some ⟨g, o, none⟩) t.items.length k3) := hbq.cell 4
        generalize hWq : (wr.alloc (.cells #[.string xname, .int .i64 xn] 60)).drewN nq = Wq at *
        clear hWq
        have hltq : w.heap.size < Wq.heap.size := hbq.lt
        have hltx : wr.heap.size < Wq.heap.size := hxq.lt
        generalize hX : wr.heap.size = X at *
        clear hX
        go_wp2_with fail
        go_loopw [50] (fun i wi => ∃ j : Nat, i = .int .i64 j ∧ j ≤ k ∧ Hid (∀ q (h : q < t.items.length), q < j → xname ≠ t.items[q].name) ∧ Below Wq.heap.size Wq wi) (fun i _ => k - (intOf i).toNat)
        case atStart => exact ⟨0, rfl, by omega, (fun q _ hq => absurd hq (by omega) : ∀ q (h : q < t.items.length), q < 0 → xname ≠ t.items[q].name), Below.refl _ _⟩
        case round =>
         obtain ⟨j, rfl, hj, hd, hbi⟩ := hrel
         have hwi := below_via hwq hbi hwq.size
         have hbi2 := hbq.below hbi hltq
         by_cases hjl : j < k
         ·have hjt : j < t.items.length := by omega
          have hcj := (HI.out.flat (enc := itemCells) hjt).keep (Keep.of_below hwi) hS
          obtain ⟨z, hz⟩ : ∃ z, z = t.items[j].name := ⟨_, rfl⟩
          obtain ⟨zn, hzn⟩ : ∃ z, z = t.items[j].n := ⟨_, rfl⟩
          have p0 : wr.cell? ⟨g, o + j * 2, none⟩ = some (.string z) := by rw [hz]; exact hcj.at_ 0 rfl
          have p1 : wr.cell? ⟨g, o + j * 2 + 1, none⟩ = some (.int .i64 zn) := by rw [hzn]; exact hcj.at_ 1 rfl
          have c0 : wr.cell? ⟨X, 0, none⟩ = some (.string xname) := (hxq.below hbi hltx).cell 0
          have hXl : X < wr.heap.size := (hxq.below hbi hltx).lt
          have hgl : g < wr.heap.size := by have := hbi.size; omega
          have Hz := Lib.hid hz
          clear hz hzn hcj c4
          have hwj := hwi.alloc hwi.size (.cells #[.string z, .int .i64 zn] 60)
          have hbj := hbi.alloc hbi.size (.cells #[.string z, .int .i64 zn] 60)
          by_cases hxz : xname = z
          ·have Hno := Lib.hid (Hbad.out j hjt hjl (hxz.trans Hz.out))
           subst hxz
           go_wp2_with fail
           go_ret
           exact ⟨ret_b Hno.out.symm, hwj⟩
          ·have hne : (xname.toList == z.toList) = false := by rw [ba_eq]; simpa using hxz
           go_wp2_with fail
           go_roundw
           case rel =>
            refine ⟨j + 1, by go_num, by omega, ?_, hbj⟩
            show ∀ q (h : q < t.items.length), q < j + 1 → xname ≠ t.items[q].name
            intro q hq hqj
            by_cases hqj' : q < j
            ·exact hd.out q hq hqj'
            ·have : q = j := by omega
             subst this
             rw [← Hz.out]; exact hxz
           case measure => simp [intOf]; omega
         ·have hnew : ∀ j (h : j < t.items.length), j < k + 1 → EnumAt t j h := by
           intro q hq hqk
           by_cases hqk' : q < k
           ·exact he.out q hq hqk'
           ·have : q = k := by omega
            subst this
            exact Hok.out fun q' hq' hqq => hd.out q' hq' (by omega)
          have Hnew := Lib.hid hnew
          clear hnew c4
          go_wp2_with fail
          go_roundw
          case rel => exact ⟨k + 1, by go_num, by omega, Hnew, hbi2, hwi⟩
          case measure => simp [intOf]; omega
       ·have Hno := Lib.hid (hno0 (fun h => by have := h.2.2.2.1 (by omega); omega))
        have Hye := Lib.hid hye
        clear hno0 hye
        have e4 : decide (y ≥ xn) = true := by simp; omega
        go_wp2_with fail
        go_quiet ((first | (go_at_call 25; exact named_quiet _ _ _ hnm (by omega) HWn.out) | (go_at_call 57; exact number_quiet _ _ _ hid)))
        go_wp2
        go_ret
        exact ⟨ret_b Hno.out.symm, below_drewN hwa _⟩
      ·have e3 : decide (0 < k) = false := by simp; omega
       have hok : (∀ q (h : q < t.items.length), q < k → xname ≠ t.items[q].name) → EnumAt t k hlt := fun h => by
        unfold EnumAt; rw [← Hxe.out]; dsimp only; exact ⟨hnm, by omega, by omega, fun h => absurd h hk0, fun j hj => h j (by omega) hj⟩
       have hbad : ∀ q (h : q < t.items.length), q < k → xname = t.items[q].name → enumF t = false := fun q _ hqk h => hno0 fun hh => hh.2.2.2.2 q hqk h
       clear hpv hk0
       have Hok := Lib.hid hok
       have Hbad := Lib.hid hbad
       clear hno0 hok hbad
       go_wp2_with fail
       go_quiet ((first | (go_at_call 25; exact named_quiet _ _ _ hnm (by omega) HWn.out) | (go_at_call 57; exact number_quiet _ _ _ hid)))
       have hwq := below_drewN hwa nq
       have hbq : Box ((wr.alloc (.cells #[.string xname, .int .i64 xn] 60)).drewN nq) w.heap.size 40 _ := hbt.drewN nq
       have hxq : Box ((wr.alloc (.cells #[.string xname, .int .i64 xn] 60)).drewN nq) wr.heap.size 60 [.string xname, .int .i64 xn] := (Box.new wr _ _).drewN nq
       clear hwa hbt q0 q1 d1 d2 e3 hnm hlo hhi b4 HWn
       have c4 : ((wr.alloc (.cells #[.string xname, .int .i64 xn] 60)).drewN nq).cell? ⟨w.heap.size, 4, none⟩ = some (.slice (some ⟨g, o, none⟩) t.items.length k3) := hbq.cell 4
       generalize hWq : (wr.alloc (.cells #[.string xname, .int .i64 xn] 60)).drewN nq = Wq at *
       clear hWq
       have hltq : w.heap.size < Wq.heap.size := hbq.lt
       have hltx : wr.heap.size < Wq.heap.size := hxq.lt
       generalize hX : wr.heap.size = X at *
       clear hX
       go_wp2_with fail
       go_loopw [50] (fun i wi => ∃ j : Nat, i = .int .i64 j ∧ j ≤ k ∧ Hid (∀ q (h : q < t.items.length), q < j → xname ≠ t.items[q].name) ∧ Below Wq.heap.size Wq wi) (fun i _ => k - (intOf i).toNat)
       case atStart => exact ⟨0, rfl, by omega, (fun q _ hq => absurd hq (by omega) : ∀ q (h : q < t.items.length), q < 0 → xname ≠ t.items[q].name), Below.refl _ _⟩
       case round =>
        obtain ⟨j, rfl, hj, hd, hbi⟩ := hrel
        have hwi := below_via hwq hbi hwq.size
        have hbi2 := hbq.below hbi hltq
        by_cases hjl : j < k
        ·have hjt : j < t.items.length := by omega
         have hcj := (HI.out.flat (enc := itemCells) hjt).keep (Keep.of_below hwi) hS
         obtain ⟨z, hz⟩ : ∃ z, z = t.items[j].name := ⟨_, rfl⟩
         obtain ⟨zn, hzn⟩ : ∃ z, z = t.items[j].n := ⟨_, rfl⟩
         have p0 : wr.cell? ⟨g, o + j * 2, none⟩ = some (.string z) := by rw [hz]; exact hcj.at_ 0 rfl
         have p1 : wr.cell? ⟨g, o + j * 2 + 1, none⟩ = some (.int .i64 zn) := by rw [hzn]; exact hcj.at_ 1 rfl
         have c0 : wr.cell? ⟨X, 0, none⟩ = some (.string xname) := (hxq.below hbi hltx).cell 0
         have hXl : X < wr.heap.size := (hxq.below hbi hltx).lt
         have hgl : g < wr.heap.size := by have := hbi.size; omega
         have Hz := Lib.hid hz
         clear hz hzn hcj c4
         have hwj := hwi.alloc hwi.size (.cells #[.string z, .int .i64 zn] 60)
         have hbj := hbi.alloc hbi.size (.cells #[.string z, .int .i64 zn] 60)
         by_cases hxz : xname = z
         ·have Hno := Lib.hid (Hbad.out j hjt hjl (hxz.trans Hz.out))
          subst hxz
          go_wp2_with fail
          go_ret
          exact ⟨ret_b Hno.out.symm, hwj⟩
         ·have hne : (xname.toList == z.toList) = false := by rw [ba_eq]; simpa using hxz
          go_wp2_with fail
          go_roundw
          case rel =>
           refine ⟨j + 1, by go_num, by omega, ?_, hbj⟩
           show ∀ q (h : q < t.items.length), q < j + 1 → xname ≠ t.items[q].name
           intro q hq hqj
           by_cases hqj' : q < j
           ·exact hd.out q hq hqj'
           ·have : q = j := by omega
            subst this
            rw [← Hz.out]; exact hxz
          case measure => simp [intOf]; omega
        ·have hnew : ∀ j (h : j < t.items.length), j < k + 1 → EnumAt t j h := by
          intro q hq hqk
          by_cases hqk' : q < k
          ·exact he.out q hq hqk'
          ·have : q = k := by omega
           subst this
           exact Hok.out fun q' hq' hqq => hd.out q' hq' (by omega)
         have Hnew := Lib.hid hnew
         clear hnew c4
         go_wp2_with fail
         go_roundw
         case rel => exact ⟨k + 1, by go_num, by omega, Hnew, hbi2, hwi⟩
         case measure => simp [intOf]; omega
   ·have Hno := Lib.hid (hno0 (fun h => hnm h.1))
    simp only [Bool.not_eq_true] at hnm
    clear hno0 hpv
    go_wp2_with fail
    go_quiet ((first | (go_at_call 25; exact named_quiet _ _ _ hnm (by omega) HWn.out) | (go_at_call 57; exact number_quiet _ _ _ hid)))
    go_wp2
    go_ret
    exact ⟨ret_b Hno.out.symm, below_drewN hwa _⟩
  ·have hend := enum_end (t := t) (fun j h => he.out j h (by omega))
   have Hend := Lib.hid hend
   have b2 : wr.cell? ⟨w.heap.size, 2, none⟩ = some (.slice A1 t.fields.length k1) := hbx.cell 2
   have b3 : wr.cell? ⟨w.heap.size, 3, none⟩ = some (.slice A2 t.gone.length k2) := hbx.cell 3
   clear he hend hbx
   go_wp2_with fail
   all_goals
    go_ret
    refine ⟨ret_b ?_, hb⟩
    rw [Hend.out]
    first | (simp; done) | (simp; omega) | (rw [Bool.eq_iff_iff]; simp [*]; done) | (rw [Bool.eq_iff_iff]; have : t.fields.length = 0 := (by simp [*]); simp only [beq_iff_eq, decide_eq_true_eq]; omega)
end Go.Proofs.YtfobdbhmfohfnaaGreatDoor
