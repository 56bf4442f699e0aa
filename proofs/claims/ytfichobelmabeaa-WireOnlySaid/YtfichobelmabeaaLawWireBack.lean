/- The walks of the statements WireBack and WireOnly. -/
import Derived.Test.YtfichobelmabeaaWireDec
import Derived.Test.YtfichobelmabeaaWireLawPlain
namespace Go.Proofs.Ytfichobelmabeaa
open Go.RowKit

set_option maxRecDepth 100000 in
set_option maxHeartbeats 400000 in
theorem keepWires_any (w : World) : Calls Try.prog 15 #[] w (Ret w (.bool true)) := by
  go_enter Try.func15, Try.ntmps15
  go_wp2_with fail
  have hr : RSl 4 40 RPart (fun _ => True) (w.alloc (.cells ([P1, P2].map partCells).flatten.toArray 27)) [.slice (some ⟨w.heap.size, 0, none⟩) 2 2] [P1, P2] :=
    RSl.of_box_flat (xs := [P1, P2]) (Box.new w 27 _) trivial (by decide) (by decide) (fun x _ => rfl)
  have he := encode_any _ _ _ _ hr (by intro p hp; simp at hp; rcases hp with rfl | rfl <;> decide)
  rw [encL_two] at he
  refine he.mono ?_
  rintro e w1 ⟨rfl, hb1⟩
  clear he hr
  go_wp2_with fail
  go_ret
  exact ⟨rfl, below_via ((Below.refl _ _).alloc (Nat.le_refl _) _) hb1 (by simp)⟩

set_option maxRecDepth 100000 in
set_option maxHeartbeats 1000000 in
theorem wireBack_any (S : Nat → Prop) (vl : Value) (l : List Part) (w : World) (hl : RSl 4 40 RPart S w [vl] l) (hp : ∀ p ∈ l, p.s.size ≤ maxLen) :
    Calls Try.prog 5 #[vl] w (Ret w (.bool true)) := by
  obtain ⟨A, cap, rfl, hlc, hlb⟩ := hl.form
  have hlen : l.length ≤ 9223372036854775807 := by omega
  have HL := Lib.hid hl
  have HP := Lib.hid hp
  clear hl hp
  go_enter Try.func5, Try.ntmps5
  go_wp2_with fail
  refine (encode_any _ _ _ _ HL.out HP.out).mono ?_
  rintro e w1 ⟨rfl, hb1⟩
  obtain ⟨bs, en, hbe⟩ : ∃ bs en, encL l [] = (bs, en) := ⟨_, _, rfl⟩
  rw [hbe]
  simp only
  by_cases hen : en = 0
  · subst hen
    have hdec := wire_back hbe
    go_wp2_with fail
    refine (keepWires_any _).mono ?_
    rintro e w2 ⟨rfl, hb2⟩
    have hb12 := below_via hb1 hb2 hb1.size
    clear hb1 hb2
    go_wp2_with fail
    have hsz : (⟨bs.toArray⟩ : ByteArray).size ≤ maxLen := by
      have := (encL_ok l [] bs hbe).2.2
      by_cases hn : l = []
      · subst hn; simp [encL] at hbe; subst hbe; decide
      · have := this hn; unfold maxLen; show bs.toArray.size ≤ _; simp; omega
    have hd := decode_any ⟨bs.toArray⟩ w2 hsz
    rw [bytes_of, hdec] at hd
    refine hd.mono ?_
    rintro e w3 ⟨v3, rfl, hr3, hb3, hps3, hl3⟩
    obtain ⟨A3, cap3, rfl, hlc3, hlb3⟩ := hr3.form
    have hb13 := below_via hb12 hb3 hb12.size
    have HR3 := Lib.hid hr3
    clear hd hb12 hb3 hr3 hps3 hdec
    have HBE := Lib.hid hbe
    clear hbe hsz
    simp only
    go_wp2_with fail
    have hgd := part_guard
    go_loopw [40] (fun i wr => ∃ k : Nat, i = .int .i64 k ∧ k ≤ l.length ∧ Below w3.heap.size w3 wr) (fun i _ => l.length - (intOf i).toNat)
    case atStart => exact ⟨0, rfl, by omega, Below.refl _ _⟩
    case round =>
      obtain ⟨k, rfl, hk, hb⟩ := hrel
      by_cases hlt : k < l.length
      · obtain ⟨g, o, es, rfl, hS, hg, hes, hr, hc⟩ := ((RSl.fair RPart.fair).keep ((RSl.fair RPart.fair).below HL.out hb13) (Keep.of_below hb)).at_ hlt
        obtain ⟨g', o', es', rfl, hS', hg', hes', hr', hc'⟩ := ((RSl.fair RPart.fair).below HR3.out hb).at_ hlt
        obtain ⟨p, hpe⟩ : ∃ p, p = l[k] := ⟨_, rfl⟩
        rw [← hpe] at hr hr'
        clear hpe
        have e1 : es = partCells p := hr
        have e2 : es' = partCells p := hr'
        subst e1 e2
        have c0 : wr.cell? ⟨g, o + k * 4, none⟩ = some (.int .i64 p.id) := hc.at_ 0 rfl
        have c1 : wr.cell? ⟨g, o + k * 4 + 1, none⟩ = some (.int .i64 p.kind) := hc.at_ 1 rfl
        have c2 : wr.cell? ⟨g, o + k * 4 + 2, none⟩ = some (.int .i64 p.n) := hc.at_ 2 rfl
        have c3 : wr.cell? ⟨g, o + k * 4 + 3, none⟩ = some (.string p.s) := hc.at_ 3 rfl
        have d0 : wr.cell? ⟨g', o' + k * 4, none⟩ = some (.int .i64 p.id) := hc'.at_ 0 rfl
        have d1 : wr.cell? ⟨g', o' + k * 4 + 1, none⟩ = some (.int .i64 p.kind) := hc'.at_ 1 rfl
        have d2 : wr.cell? ⟨g', o' + k * 4 + 2, none⟩ = some (.int .i64 p.n) := hc'.at_ 2 rfl
        have d3 : wr.cell? ⟨g', o' + k * 4 + 3, none⟩ = some (.string p.s) := hc'.at_ 3 rfl
        clear hr hr' hc hc' hes hes' hg hg' hS hS'
        have hneq : ∀ W, (binOp .neq 27 (partV p) (partV p)).run Try.prog W = .ok (.bool false) W := fun W => by
          have := run_neq_part p p W
          simpa using this
        go_wp2_with fail
        go_quiet (fail)
        go_wp2_with fail
        go_roundw
        case rel => exact ⟨k + 1, by go_num, by omega, below_drewN hb _⟩
        case measure => simp [intOf]; omega
      · go_wp2_with fail
        go_ret
        exact ⟨rfl, below_via hb13 hb hb13.size⟩
  · have hbs : bs = [] := by
      have := encL_code l [] (by rw [hbe]; exact hen)
      rw [hbe] at this; exact this
    subst hbs
    have hen' : (en != 0) = true := by rw [bne_iff_ne]; exact hen
    go_wp2_with fail
    refine (keepWires_any _).mono ?_
    rintro e w2 ⟨rfl, hb2⟩
    go_wp2_with fail
    go_ret
    exact ⟨rfl, below_via hb1 hb2 hb1.size⟩

set_option maxRecDepth 100000 in
set_option maxHeartbeats 1000000 in
theorem wireOnly_any (s : ByteArray) (w : World) (hs : s.size ≤ maxLen) :
    Calls Try.prog 6 #[.string s] w (Ret w (.bool true)) := by
  go_enter Try.func6, Try.ntmps6
  go_wp2_with fail
  refine (decode_any s _ hs).mono ?_
  rintro e w1 ⟨v1, rfl, hr1, hb1, hps1, hl1⟩
  obtain ⟨A1, cap1, rfl, hlc1, hlb1⟩ := hr1.form
  obtain ⟨l, en, hbe⟩ : ∃ l en, decF (bytes s) = (l, en) := ⟨_, _, rfl⟩
  rw [hbe] at hr1 hps1 hl1 hlb1 hlc1 ⊢
  simp only at *
  by_cases hen : en = 0
  · subst hen
    have henc := wire_only hbe
    have Hr1 := Lib.hid hr1
    have Hps := Lib.hid hps1
    clear hbe hr1 hps1
    go_wp2_with fail
    refine (keepWires_any _).mono ?_
    rintro e w2 ⟨rfl, hb2⟩
    have hb12 := below_via hb1 hb2 hb1.size
    have hr2 := (RSl.fair RPart.fair).below Hr1.out hb2
    clear hb1 hb2
    go_wp2_with fail
    have he := encode_any _ _ _ _ hr2 (fun p hp => Nat.le_trans (Hps.out p hp) (by unfold maxLen; omega))
    rw [henc, ← ba_of (s := s) rfl] at he
    refine he.mono ?_
    rintro e w3 ⟨rfl, hb3⟩
    have hb13 := below_via hb12 hb3 hb12.size
    clear he hb12 hb3 hr2 henc
    go_wp2_with fail
    go_ret
    exact ⟨rfl, hb13⟩
  · have hl0 : l = [] := by
      have := decF_code (bytes s) (by rw [hbe]; exact hen)
      rw [hbe] at this; exact this
    subst hl0
    have hen' : (en != 0) = true := by rw [bne_iff_ne]; exact hen
    clear hbe hr1 hps1
    go_wp2_with fail
    refine (keepWires_any _).mono ?_
    rintro e w2 ⟨rfl, hb2⟩
    go_wp2_with fail
    go_ret
    exact ⟨rfl, below_via hb1 hb2 hb1.size⟩
end Go.Proofs.Ytfichobelmabeaa
