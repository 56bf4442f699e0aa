/- The walk of the statement WireEncodes. -/
import Derived.Test.YtfichobelmabeaaWireSame
import Derived.Test.YtfichobelmabeaaWireRefEnc
namespace Go.Proofs.Ytfichobelmabeaa
open Go.RowKit

set_option maxRecDepth 100000 in
set_option maxHeartbeats 1000000 in
theorem wireEncodes_any (S : Nat → Prop) (vl : Value) (l : List Part) (w : World) (hl : RSl 4 40 RPart S w [vl] l) (hp : ∀ p ∈ l, p.s.size ≤ maxLen) :
    Calls Try.prog 3 #[vl] w (Ret w (.bool true)) := by
  replace hl := (RSl.fair RPart.fair).old hl
  obtain ⟨A, cap, rfl, hlc, hlb⟩ := hl.form
  have hlen : l.length ≤ 9223372036854775807 := by omega
  have HL := Lib.hid hl
  have HP := Lib.hid hp
  clear hl hp
  go_enter Try.func3, Try.ntmps3
  go_wp2_with (first | (at_builtin; refine wl_append (T := Old w) (xs := []) (ys := l) w rfl (.const (.slice none 0 0)) (.tmp 10) rfl sl_parts RPart.fair rfl rfl (Own.nil_ w.heap.size _ _ _ _ _) (HL.out.src (by decide) RPart.ones) ?_ ?_ ?_ ?_))
  · exact fun g h => h
  · simp; omega
  · exact Nat.le_refl _
  intro v1 w1 ho1 hg1 hn1
  have hb1 : Below w.heap.size w w1 := below_grown (Below.refl _ _) hg1 (Nat.le_refl _) (by simp [Value.ownBlock])
  have hr1 : RSl 4 40 RPart (Old w1) w1 [v1] l := ho1.read RPart.fair (fun g _ h => h) (fun k hk => (ho1.lt hk).2) hlb
  clear ho1 hg1 hn1
  go_wp2_with fail
  refine (encode_any _ _ _ _ hr1 HP.out).mono ?_
  rintro e w2 ⟨rfl, hb2⟩
  have hb12 := below_via hb1 hb2 hb1.size
  clear hb1 hb2 hr1
  have hr2 := (RSl.fair RPart.fair).keep HL.out (Keep.of_below hb12)
  go_wp2_with fail
  refine (encodeParts_any _ _ _ _ hr2 HP.out).mono ?_
  rintro e w3 ⟨rfl, hb3⟩
  have hb13 := below_via hb12 hb3 hb12.size
  clear hb12 hb3 hr2
  obtain ⟨bs, hbs⟩ : ∃ s : ByteArray, s = ⟨(encL l []).1.toArray⟩ := ⟨_, rfl⟩
  rw [← hbs]
  obtain ⟨en, hen⟩ : ∃ s : Int, s = (encL l []).2 := ⟨_, rfl⟩
  rw [← hen]
  clear hbs hen
  go_wp2_with fail
  go_loopw [22] (fun i wr => ∃ k : Nat, i = .int .i64 k ∧ k ≤ l.length ∧ Below w.heap.size w wr) (fun i _ => l.length - (intOf i).toNat)
  case atStart => exact ⟨0, rfl, by omega, hb13⟩
  case round =>
    obtain ⟨k, rfl, hk, hb⟩ := hrel
    by_cases hlt : k < l.length
    · obtain ⟨g, o, es, rfl, hS, hg, hes, hr, hc⟩ := ((RSl.fair RPart.fair).keep HL.out (Keep.of_below hb)).at_ hlt
      have hps := HP.out l[k] (List.getElem_mem hlt)
      obtain ⟨p, hpe⟩ : ∃ p, p = l[k] := ⟨_, rfl⟩
      rw [← hpe] at hr hps
      clear hpe
      have hr' : es = partCells p := hr
      subst hr'
      have c0 : wr.cell? ⟨g, o + k * 4, none⟩ = some (.int .i64 p.id) := hc.at_ 0 rfl
      have c1 : wr.cell? ⟨g, o + k * 4 + 1, none⟩ = some (.int .i64 p.kind) := hc.at_ 1 rfl
      have c2 : wr.cell? ⟨g, o + k * 4 + 2, none⟩ = some (.int .i64 p.n) := hc.at_ 2 rfl
      have c3 : wr.cell? ⟨g, o + k * 4 + 3, none⟩ = some (.string p.s) := hc.at_ 3 rfl
      go_wp2_with fail
      have hbx : Box (wr.alloc (.cells (partCells p).toArray 27)).drew wr.heap.size 27 (partCells p) := Box.new wr _ (partCells p)
      have hb0 : Below w.heap.size w (wr.alloc (.cells (partCells p).toArray 27)).drew := below_drew (hb.alloc hb.size _)
      go_region_held3 (fun w' => w'.cell? ⟨wr.heap.size, 0, none⟩ = some (.int .i64 p.id) ∧ w'.cell? ⟨wr.heap.size, 1, none⟩ = some (.int .i64 p.kind) ∧ w'.cell? ⟨wr.heap.size, 2, none⟩ = some (.int .i64 p.n) ∧ w'.cell? ⟨wr.heap.size, 3, none⟩ = some (.string p.s))
        (first | exact ⟨hx2.cell 0, hx2.cell 1, hx2.cell 2, hx2.cell 3⟩ | exact ⟨hx1.cell 0, hx1.cell 1, hx1.cell 2, hx1.cell 3⟩ | exact ⟨hbx.cell 0, hbx.cell 1, hbx.cell 2, hbx.cell 3⟩ | go_keep)
        (first
          | (go_at_call 9; refine (wgood_any p _ hps).mono ?_; rintro e w4 ⟨rfl, hb4⟩; first | (have hx2 := hx1.below hb4 hx1.lt; have hw2 := below_via hw1 hb4 hw1.size) | (have hx1 := hbx.below hb4 hbx.lt; have hw1 := below_via hb0 hb4 hb0.size))
          | (go_at_call 10; refine (isPart_any p _ hps).mono ?_; rintro e w4 ⟨rfl, hb4⟩; first | (have hx2 := hx1.below hb4 hx1.lt; have hw2 := below_via hw1 hb4 hw1.size) | (have hx1 := hbx.below hb4 hbx.lt; have hw1 := below_via hb0 hb4 hb0.size)))
      all_goals
        go_wp2_with fail
        go_roundw
        case rel => exact ⟨k + 1, by go_num, by omega, hw2⟩
        case measure => simp [intOf]; omega
    · go_wp2_with fail
      refine (wires_any _).mono ?_
      rintro e w5 ⟨rfl, hb5⟩
      go_wp2_with fail
      go_ret
      exact ⟨rfl, below_via hb hb5 hb.size⟩
end Go.Proofs.Ytfichobelmabeaa
