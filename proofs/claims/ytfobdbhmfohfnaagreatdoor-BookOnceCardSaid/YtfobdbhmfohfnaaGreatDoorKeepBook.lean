/- The walks of keep's books, BookBack, BookOnce. -/
import Derived.Test.YtfobdbhmfohfnaaGreatDoorParse
import Derived.Test.YtfobdbhmfohfnaaGreatDoorPrint
import Derived.Test.YtfobdbhmfohfnaaGreatDoorKeepSame
import Derived.Test.YtfobdbhmfohfnaaGreatDoorWalks
namespace Go.Proofs.YtfobdbhmfohfnaaGreatDoor
open Go.RowKit
def bookT : ByteArray := ⟨#[109, 101, 115, 115, 97, 103, 101, 32, 98, 123, 49, 32, 111, 110, 101, 32, 105, 110, 116, 32, 120, 59, 125, 101, 110, 117, 109, 32, 97, 123, 48, 32, 110, 111, 59, 125]⟩
def bookAB : BookD := [⟨⟨#[97]⟩, true, [], [], [⟨⟨#[110, 111]⟩, 0⟩]⟩, ⟨⟨#[98]⟩, false, [⟨1, ⟨#[120]⟩, ⟨#[]⟩, 2, 1⟩], [], []⟩]
theorem parse_bookT : parseF (bytes bookT) = (bookAB, 0) := by kernel_rfl
theorem least_bookT : leastF bookAB 4 ⟨#[98]⟩ = 2 := by kernel_rfl
theorem parseF_cases (s : List UInt8) : parseF s = ([], 7) ∨ parseF s = ([], 1) ∨ ∃ q, parseF s = parseR q := by
  by_cases h1 : 4000 < s.length
  · exact .inl (by rw [parseF, if_pos h1])
  · cases hs : spl s with
    | none => exact .inr (.inl (parseF_none (by omega) hs))
    | some l => exact .inr (.inr ⟨_, parseF_some (by omega) hs⟩)
theorem parseF_bad {s : List UInt8} (h : (parseF s).2 ≠ 0) : (parseF s).1 = [] := by
  rcases parseF_cases s with e | e | ⟨q, e⟩
  · rw [e]
  · rw [e]
  · rw [e] at h ⊢
    unfold parseR at h ⊢
    by_cases hb : q.2.bad = true
    · rw [if_pos hb]
    · rw [if_neg hb] at h ⊢
      by_cases hg : goodF (fixF (sortS ltType q.1)) ≠ 0
      · rw [if_pos hg]
      · rw [if_neg hg] at h; exact absurd rfl h
theorem parseF_good {s : List UInt8} (h : (parseF s).2 = 0) : goodF (parseF s).1 = 0 := by
  rcases parseF_cases s with e | e | ⟨q, e⟩
  · rw [e] at h; cases h
  · rw [e] at h; cases h
  · rw [e] at h ⊢
    unfold parseR at h ⊢
    by_cases hb : q.2.bad = true
    · rw [if_pos hb] at h; cases h
    · rw [if_neg hb] at h ⊢
      by_cases hg : goodF (fixF (sortS ltType q.1)) ≠ 0
      · rw [if_pos hg] at h; exact absurd h hg
      · rw [if_neg hg]; exact Classical.byContradiction hg
theorem good_bookOk {b : BookD} (hg : goodF b = 0) : BookOk b := by
  intro t ht
  have hn : ∀ u ∈ b, u.name.size ≤ 12 := by
    intro u hu
    obtain ⟨i, hi, rfl⟩ := List.getElem_of_mem hu
    exact named_short ((good_parts hg).2.1 i hi).1
  unfold SizeOk
  refine ⟨by have := hn t ht; omega, fun f hf => ?_, fun x hx => ?_⟩
  · cases he : t.enum with
    | true =>
      have := (good_enum hg ht he).2.2.2.1
      rw [List.eq_nil_of_length_eq_zero this] at hf; cases hf
    | false =>
      have hfp := msg_field (good_msg hg ht he) hf
      have h1 := named_short hfp.1
      refine ⟨by omega, ?_⟩
      by_cases h4 : f.kind < 4
      · have := hfp.2.2.2.2.2.2.2.1 h4; omega
      · have hk := (hfp.2.2.2.2.2.2.2.2 (by omega)).1
        obtain ⟨t2, h2⟩ := Option.isSome_iff_exists.1 hk
        unfold findT at h2
        have hm := List.mem_of_find?_eq_some h2
        have hq := List.find?_some h2
        simp only [decide_eq_true_eq] at hq
        rw [← hq]
        have := hn t2 hm; omega
  · cases he : t.enum with
    | true =>
      obtain ⟨k, hk, rfl⟩ := List.getElem_of_mem hx
      have := named_short ((good_enum hg ht he).1 k hk).1; omega
    | false =>
      have := (good_msg hg ht he).2.1
      rw [List.eq_nil_of_length_eq_zero this] at hx; cases hx
set_option maxRecDepth 100000 in
set_option maxHeartbeats 4000000 in
theorem books_any (w : World) (hW : Words w) (hN : Nums w) (hL : Lists w) : Calls Tryz.prog 9 #[] w (Ret w (.bool true)) := by
  have hp := Lib.hid (parse_any bookT w (by decide) hW hN hL)
  rw [parse_bookT] at hp
  clear hW hN hL
  unfold bookT at hp
  go_enter Tryz.func9, Tryz.ntmps9
  go_wp2_with fail
  refine hp.out.mono ?_
  rintro e w1 ⟨v, rfl, hr, hb1⟩
  obtain ⟨A, cap, rfl, hlc, hlb⟩ := hr.form
  have HR := Lib.hid hr
  obtain ⟨g, o, rfl, hSg, hgl⟩ := hr.base (by decide)
  obtain ⟨es, -, hre, hli⟩ := hr.lies (k := 0) (by decide)
  obtain ⟨es1, -, hre1, hli1⟩ := hr.lies (k := 1) (by decide)
  obtain ⟨P1, p1, P2, p2, P3, p3, rfl, -, -, -⟩ := hre.parts
  obtain ⟨Q1, q1, Q2, q2, Q3, q3, rfl, -, -, -⟩ := hre1.parts
  have b0 : w1.cell? ⟨g, o + 1, none⟩ = some (.bool true) := by have := hli.at_ 1 (show _ = some (Value.bool true) from rfl); simpa using this
  have b1 : w1.cell? ⟨g, o + 5 + 2, none⟩ = some (.slice Q1 1 q1) := by have := hli1.at_ 2 (show _ = some (Value.slice Q1 1 q1) from rfl); simpa using this
  have hlst := Lib.hid (fun W (hW' : Below w1.heap.size w1 W) => leastOf4_any _ _ bookAB ⟨#[98]⟩ W ((RSl.fair RType.fair).below hr hW'))
  clear hr hre hre1 hli hli1 hSg
  have hbl : bookAB.length = 2 := rfl
  rw [hbl] at hlc hlst ⊢
  rw [least_bookT] at hlst
  have hG := hb1.alloc hb1.size (.cells [Value.slice (some ⟨g, o, none⟩) 2 cap].toArray 24)
  have hW2 := (Below.here w1).alloc (Nat.le_refl _) (.cells [Value.slice (some ⟨g, o, none⟩) 2 cap].toArray 24)
  have hgl2 : g < w1.heap.size := hgl
  have h20 : (0 : Int) < 2 := by decide
  have h21 : (1 : Int) < 2 := by decide
  dsimp only
  clear hbl hlc hlb
  go_wp2_with fail
  refine (hlst.out _ hW2).mono ?_
  rintro e w3 ⟨rfl, hb3⟩
  have hG3 := below_via hG hb3 hG.size
  clear hW2
  go_wp2_with fail
  go_ret
  exact ⟨rfl, hG3⟩
set_option maxRecDepth 100000 in
set_option maxHeartbeats 4000000 in
theorem bookBack_any (S : Nat → Prop) (vb : Value) (b : BookD) (w : World) (hb0 : RSl 5 96 RType S w [vb] b) (hW : Words w) (hN : Nums w) (hL : Lists w) (hsz : BookOk b) :
    Calls Tryz.prog 3 #[.agg #[vb]] w (Ret w (.bool true)) := by
  obtain ⟨A, cap, rfl, hlc, hlb⟩ := hb0.form
  have HB := Lib.hid hb0
  have hpr := Lib.hid (fun W (h : Below w.heap.size w W) => print_any S _ b W ((RSl.fair RType.fair).below hb0 h) (hW.below h) (hN.below h) (hL.below h) hsz)
  have hgd := Lib.hid (fun W (h : Below w.heap.size w W) => good_any S _ b W ((RSl.fair RType.fair).below hb0 h) (hW.below h) hsz)
  have hbk := Lib.hid (fun W (h : Below w.heap.size w W) => books_any W (hW.below h) (hN.below h) (hL.below h))
  have hpa := Lib.hid (fun s W (h : Below w.heap.size w W) (hs : s.size ≤ 9223372036854775807) => parse_any s W hs (hW.below h) (hN.below h) (hL.below h))
  have hZ0 := Box.new w 24 [.slice A b.length cap]
  have hG0 := (Below.here w).alloc (Nat.le_refl _) (.cells [Value.slice A b.length cap].toArray 24)
  clear hb0 hW hN hL hsz hlc hlb
  go_enter Tryz.func3, Tryz.ntmps3
  go_wp2_with fail
  refine (hpr.out _ hG0).mono ?_
  rintro e w1 ⟨rfl, hb1⟩
  have hZ1 := hZ0.below hb1 hZ0.lt
  have hG1 := below_via hG0 hb1 hG0.size
  have z1 := hZ1.cell 0
  have zl1 := hZ1.lt
  clear hZ0 hG0 hb1
  by_cases hg : goodF b = 0
  · --[OK
    have hpf : printF b = (b.flatMap printType, 0) := printF_good hg
    have Hg := Lib.hid hg
    rw [hpf]
    obtain ⟨s, hs⟩ : ∃ s : ByteArray, s = ⟨(b.flatMap printType).toArray⟩ := ⟨_, rfl⟩
    have hbs : bytes s = b.flatMap printType := by rw [hs]
    have hss : s.size ≤ 1600 := by
      have h1 := print_len hg
      rw [← hbs] at h1
      exact h1
    have Hps : Hid (parseF (bytes s) = (b, 0)) := by show _ = _; rw [hbs]; exact parse_print hg
    dsimp only
    rw [← hs]
    clear hg hpf hs hbs
    go_wp2_with fail
    refine (hbk.out _ hG1).mono ?_
    rintro e w2 ⟨rfl, hb2⟩
    have hZ2 := hZ1.below hb2 hZ1.lt
    have hG2 := below_via hG1 hb2 hG1.size
    clear z1 zl1 hZ1 hG1 hb2
    go_wp2_with fail
    refine (hpa.out s w2 hG2 (by omega)).mono ?_
    rintro e w3 ⟨v, rfl, hrv, hb3⟩
    rw [Hps.out] at hrv ⊢
    obtain ⟨A2, cap2, rfl, -, -⟩ := hrv.form
    have hZ3 := hZ2.below hb3 hZ2.lt
    have hG3 := below_via hG2 hb3 hG2.size
    dsimp only at hrv ⊢
    have hB4 := (Below.here w3).alloc (Nat.le_refl _) (.cells [Value.slice A2 b.length cap2].toArray 24)
    have hZ4 := hZ3.alloc (.cells [Value.slice A2 b.length cap2].toArray 24)
    have hX4 := Box.new w3 24 [.slice A2 b.length cap2]
    have hG4 := hG3.alloc hG3.size (.cells [Value.slice A2 b.length cap2].toArray 24)
    have hsm := Lib.hid (sameBook_any _ _ _ _ b _ ((RSl.fair RType.fair).below HB.out hG4) ((RSl.fair RType.fair).below hrv hB4))
    have z4 := hZ4.cell 0
    have zl4 := hZ4.lt
    have hsl : (s.size : Int) ≤ 4000 := by omega
    clear hZ2 hG2 hrv hb3 hZ3 hG3 hB4 hX4 hZ4
    go_wp2_with fail
    refine hsm.out.mono ?_
    rintro e w5 ⟨rfl, hb5⟩
    have hG5 := below_via hG4 hb5 hG4.size
    clear z4 zl4
    go_wp2_with fail
    go_ret
    exact ⟨rfl, hG5⟩
    --OK]
  · --[BAD
    have hpf : printF b = ([], goodF b) := by rw [printF, if_pos hg]
    rw [hpf]
    dsimp only
    obtain ⟨ge, hge⟩ : ∃ ge, ge = goodF b := ⟨_, rfl⟩
    rw [← hge] at hg hgd ⊢
    clear hpf hge
    go_wp2_with fail
    refine (hgd.out _ hG1).mono ?_
    rintro e w2 ⟨rfl, hb2⟩
    have hG2 := below_via hG1 hb2 hG1.size
    clear z1 zl1 hZ1 hG1 hb2
    go_wp2_with fail
    refine (hbk.out _ hG2).mono ?_
    rintro e w3 ⟨rfl, hb3⟩
    have hG3 := below_via hG2 hb3 hG2.size
    clear hG2 hb3
    go_wp2_with fail
    go_ret
    exact ⟨rfl, hG3⟩
    --BAD]
set_option maxRecDepth 100000 in
set_option maxHeartbeats 4000000 in
theorem bookOnce_any (s : ByteArray) (w : World) (hs : s.size ≤ 9223372036854775807) (hW : Words w) (hN : Nums w) (hL : Lists w) :
    Calls Tryz.prog 4 #[.string s] w (Ret w (.bool true)) := by
  have hpa0 := Lib.hid (parse_any s w hs hW hN hL)
  have hpr := Lib.hid (fun S v b W (h : Below w.heap.size w W) (hg : goodF b = 0) (hb : RSl 5 96 RType S W [v] b) => print_any S v b W hb (hW.below h) (hN.below h) (hL.below h) (good_bookOk hg))
  have hgd := Lib.hid (fun S v b W (h : Below w.heap.size w W) (hg : goodF b = 0) (hb : RSl 5 96 RType S W [v] b) => good_any S v b W hb (hW.below h) (good_bookOk hg))
  have hbk := Lib.hid (fun W (h : Below w.heap.size w W) => books_any W (hW.below h) (hN.below h) (hL.below h))
  have hpa := Lib.hid (fun s W (h : Below w.heap.size w W) (hs : s.size ≤ 9223372036854775807) => parse_any s W hs (hW.below h) (hN.below h) (hL.below h))
  have Hbad := Lib.hid (parseF_bad (s := bytes s))
  have Hgood := Lib.hid (parseF_good (s := bytes s))
  obtain ⟨p, hp⟩ : ∃ p, p = parseF (bytes s) := ⟨_, rfl⟩
  rw [← hp] at hpa0 Hbad Hgood
  obtain ⟨b, pe⟩ := p
  dsimp only at Hbad Hgood
  clear hW hN hL hs hp
  go_enter Tryz.func4, Tryz.ntmps4
  go_wp2_with fail
  refine hpa0.out.mono ?_
  rintro e w1 ⟨v, rfl, hr, hb1⟩
  dsimp only at hr ⊢
  obtain ⟨A, cap, rfl, -, -⟩ := hr.form
  have hZ2 := Box.new w1 24 [.slice A b.length cap]
  have hB2 := (Below.here w1).alloc (Nat.le_refl _) (.cells [Value.slice A b.length cap].toArray 24)
  have hG2 := hb1.alloc hb1.size (.cells [Value.slice A b.length cap].toArray 24)
  have HR2 := Lib.hid ((RSl.fair RType.fair).below hr hB2)
  have z2 := hZ2.cell 0
  have zl2 := hZ2.lt
  clear hr hB2 hb1
  by_cases hg : pe = 0
  · --[OK
    have hgb : goodF b = 0 := Hgood.out hg
    have Hgb := Lib.hid hgb
    subst hg
    clear hgb
    go_wp2_with fail
    refine (hbk.out _ hG2).mono ?_
    rintro e w3 ⟨rfl, hb3⟩
    have hZ3 := hZ2.below hb3 hZ2.lt
    have hG3 := below_via hG2 hb3 hG2.size
    have HR3 := Lib.hid ((RSl.fair RType.fair).below HR2.out hb3)
    have z3 := hZ3.cell 0
    have zl3 := hZ3.lt
    clear z2 zl2 hZ2 hG2 hb3
    go_wp2_with fail
    refine (hpr.out _ _ b w3 hG3 Hgb.out HR3.out).mono ?_
    rintro e w4 ⟨rfl, hb4⟩
    have hZ4 := hZ3.below hb4 hZ3.lt
    have hG4 := below_via hG3 hb4 hG3.size
    have HR4 := Lib.hid ((RSl.fair RType.fair).below HR3.out hb4)
    clear z3 zl3 hZ3 hG3 hb4
    have hpf := printF_good Hgb.out
    rw [hpf]
    obtain ⟨t, ht⟩ : ∃ t : ByteArray, t = ⟨(b.flatMap printType).toArray⟩ := ⟨_, rfl⟩
    have hbt : bytes t = b.flatMap printType := by rw [ht]
    have hts : t.size ≤ 1600 := by
      have h1 := print_len Hgb.out
      rw [← hbt] at h1
      exact h1
    have Hpt : Hid (parseF (bytes t) = (b, 0)) := by show _ = _; rw [hbt]; exact parse_print Hgb.out
    dsimp only
    rw [← ht]
    clear hpf ht hbt
    go_wp2_with fail
    refine (hpa.out t w4 hG4 (by omega)).mono ?_
    rintro e w5 ⟨v2, rfl, hr2, hb5⟩
    rw [Hpt.out] at hr2 ⊢
    dsimp only at hr2 ⊢
    obtain ⟨A2, cap2, rfl, -, -⟩ := hr2.form
    have hZ5 := hZ4.below hb5 hZ4.lt
    have hG5 := below_via hG4 hb5 hG4.size
    have HR5 := Lib.hid ((RSl.fair RType.fair).below HR4.out hb5)
    have hB6 := (Below.here w5).alloc (Nat.le_refl _) (.cells [Value.slice A2 b.length cap2].toArray 24)
    have hZ6 := hZ5.alloc (.cells [Value.slice A2 b.length cap2].toArray 24)
    have hG6 := hG5.alloc hG5.size (.cells [Value.slice A2 b.length cap2].toArray 24)
    have HR6 := Lib.hid ((RSl.fair RType.fair).below HR5.out hB6)
    have hsm := Lib.hid (sameBook_any _ _ _ _ b _ HR6.out ((RSl.fair RType.fair).below hr2 hB6))
    have z6 := hZ6.cell 0
    have zl6 := hZ6.lt
    clear hZ4 hG4 hb5 hr2 hZ5 hG5 hB6 hts
    go_wp2_with fail
    refine hsm.out.mono ?_
    rintro e w7 ⟨rfl, hb7⟩
    have hZ7 := hZ6.below hb7 hZ6.lt
    have hG7 := below_via hG6 hb7 hG6.size
    have HR7 := Lib.hid ((RSl.fair RType.fair).below HR6.out hb7)
    have z7 := hZ7.cell 0
    have zl7 := hZ7.lt
    have hgd2 := Lib.hid (hgd.out _ _ b w7 hG7 Hgb.out HR7.out)
    rw [Hgb.out] at hgd2
    clear z6 zl6 hZ6 hG6 hb7
    go_wp2_with fail
    refine hgd2.out.mono ?_
    rintro e w8 ⟨rfl, hb8⟩
    have hG8 := below_via hG7 hb8 hG7.size
    clear z7 zl7
    go_wp2_with fail
    go_ret
    exact ⟨rfl, hG8⟩
    --OK]
  · --[BAD
    obtain rfl : b = [] := Hbad.out hg
    have hbl : ([] : BookD).length = 0 := rfl
    rw [hbl] at z2
    clear hbl
    go_wp2_with fail
    refine (hbk.out _ hG2).mono ?_
    rintro e w3 ⟨rfl, hb3⟩
    have hG3 := below_via hG2 hb3 hG2.size
    clear hG2 hb3 z2 zl2
    go_wp2_with fail
    go_ret
    exact ⟨rfl, hG3⟩
    --BAD]
end Go.Proofs.YtfobdbhmfohfnaaGreatDoor
