/- The walk of book.least. -/
import Derived.Test.YtaadnlopifaagaaDoorBookNamed
namespace Go.Proofs.YtaadnlopifaagaaDoor
open Go.RowKit

set_option maxRecDepth 100000 in
set_option maxHeartbeats 2000000 in
theorem least_any (S : Nat → Prop) (vb : Value) (b : BookD) : ∀ (left : Nat), left ≤ 4 → ∀ (name : ByteArray) (w : World), RSl 5 96 RType S w [vb] b →
    Calls Tryd.prog 36 #[.agg #[vb], .string name, .int .i64 left] w (Ret w (.int .i64 (leastF b left name))) := by
  intro left
  induction left with
  | zero =>
    intro _ name w hb
    have HB := Lib.hid hb
    obtain ⟨A, cap, rfl, hlc, hlb⟩ := hb.form
    clear hb
    go_enter Tryd.func36, Tryd.ntmps36
    go_wp2_with fail
    have hbk := (RSl.fair RType.fair).below HB.out ((Below.refl w.heap.size w).alloc (Nat.le_refl _) (.cells #[.slice A b.length cap] 24))
    refine (find_any S _ b name _ hbk).mono ?_
    rintro e w1 ⟨cs, rfl, hr, hb1⟩
    obtain ⟨A1, k1, A2, k2, A3, k3, rfl, -, -, -⟩ := hr.parts
    have hbw : Below w.heap.size w w1 := below_via ((Below.refl w.heap.size w).alloc (Nat.le_refl _) _) hb1 (by simp)
    clear hb1 hr hbk
    generalize (findT b name).getD TypeD.zero = t at *
    by_cases hfd : (findT b name).isSome = true
    · rw [hfd]
      by_cases hte : t.enum = true
      · rw [hte]
        go_wp2_with fail
        go_ret
        exact ⟨rfl, hbw.alloc hbw.size _⟩
      · simp only [Bool.not_eq_true] at hte
        rw [hte]
        go_wp2_with fail
        go_ret
        exact ⟨rfl, hbw.alloc hbw.size _⟩
    · simp only [Bool.not_eq_true] at hfd
      rw [hfd]
      go_wp2_with fail
      go_ret
      exact ⟨rfl, hbw.alloc hbw.size _⟩
  | succ left ih =>
    intro hleft name w hb
    have IH := Lib.hid ih
    have HB := Lib.hid hb
    obtain ⟨A, cap, rfl, hlc, hlb⟩ := hb.form
    clear hb ih
    go_enter Tryd.func36, Tryd.ntmps36
    go_wp2_with fail
    have hbk := (RSl.fair RType.fair).below HB.out ((Below.refl w.heap.size w).alloc (Nat.le_refl _) (.cells #[.slice A b.length cap] 24))
    refine (find_any S _ b name _ hbk).mono ?_
    rintro e w1 ⟨cs, rfl, hr, hb1⟩
    have hbw : Below w.heap.size w w1 := below_via ((Below.refl w.heap.size w).alloc (Nat.le_refl _) _) hb1 (by simp)
    have hbox : Box w1 w.heap.size 24 [.slice A b.length cap] := (Box.new w _ _).below hb1 (by simp)
    have hr1 := RType.fair.keep hr (Keep.of_below hb1)
    have hlt1 := hbox.lt
    clear hb1 hr hbk
    cases hfd : findT b name with
    | none =>
      have hl : leastF b (left + 1) name = 0 := by rw [leastF, hfd]
      have Hl := Lib.hid hl
      clear hl
      rw [hfd] at hr1
      obtain ⟨A1, k1, A2, k2, A3, k3, rfl, -, -, -⟩ := hr1.parts
      simp only [Option.getD_none, Option.isSome_none, TypeD.zero]
      go_wp2_with fail
      go_ret
      exact ⟨ret_i (by rw [Hl.out]; rfl), hbw.alloc hbw.size _⟩
    | some t =>
      rw [hfd] at hr1
      simp only [Option.getD_some, Option.isSome_some] at hr1 ⊢
      obtain ⟨A1, k1, A2, k2, A3, k3, rfl, hf, -, -⟩ := hr1.parts
      have HF := Lib.hid hf
      obtain ⟨Af, kf, hff, hflc, hflb⟩ := hf.form
      clear hr1 hf hff
      by_cases hte : t.enum = true
      · have hl : leastF b (left + 1) name = 0 := by rw [leastF, hfd]; simp [hte]
        have Hl := Lib.hid hl
        clear hl
        rw [hte]
        go_wp2_with fail
        go_ret
        exact ⟨ret_i (by rw [Hl.out]; rfl), hbw.alloc hbw.size _⟩
      · simp only [Bool.not_eq_true] at hte
        by_cases h5 : 5 < t.fields.length
        · have hl : leastF b (left + 1) name = 0 := by rw [leastF, hfd]; simp [h5]
          have Hl := Lib.hid hl
          clear hl
          rw [hte]
          go_wp2_with fail
          go_ret
          exact ⟨ret_i (by rw [Hl.out]; rfl), hbw.alloc hbw.size _⟩
        · have hl : leastF b (left + 1) name = leastGo (leastF b left) t.fields 1 := by rw [leastF, hfd]; simp [hte, h5]
          have Hl := Lib.hid hl
          clear hl
          have hl0 : ((left : Int) + 1 == 0) = false := by rw [beq_eq_false_iff_ne]; omega
          have h5' : ¬ 5 < (t.fields.length : Int) := by omega
          have h5l : t.fields.length ≤ 5 := by omega
          rw [hte]
          go_wp2_with fail
          go_loopw [9, 38] (fun v i wr => ∃ (k n : Nat), i = .int .i64 k ∧ k ≤ t.fields.length ∧ v = .int .i64 n ∧ n ≤ 1 + k * 216 ∧ Hid (leastGo (leastF b left) (t.fields.drop k) n = leastGo (leastF b left) t.fields 1) ∧
              Box wr w.heap.size 24 [.slice A b.length cap] ∧ Below w1.heap.size w1 wr) (fun _ i _ => t.fields.length - (intOf i).toNat)
          case atStart => exact ⟨0, 1, rfl, by omega, rfl, by omega, rfl, hbox.alloc _, (Below.refl _ _).alloc (Nat.le_refl _) _⟩
          case round =>
            obtain ⟨k, n, rfl, hk, rfl, hn, he, hbx, hb⟩ := hrel
            have hbw2 : Below w.heap.size w wr := below_via hbw hb hbw.size
            by_cases hlt : k < t.fields.length
            · obtain ⟨g, o, es, rfl, hS, hg, hes, hr, hc0⟩ := HF.out.at_ hlt
              have hc := hc0.keep (Keep.of_below hb) hS
              have hgw : g < wr.heap.size := Nat.lt_of_lt_of_le hg hb.size
              have hd : t.fields.drop k = t.fields[k] :: t.fields.drop (k + 1) := List.drop_eq_getElem_cons hlt
              obtain ⟨f, hfe⟩ : ∃ f, f = t.fields[k] := ⟨_, rfl⟩
              rw [← hfe] at hr hd
              rw [hd, leastGo] at he
              have hr' : es = fieldCells f := hr
              subst hr'
              have q0 : wr.cell? ⟨g, o + k * 5, none⟩ = some (.int .i64 f.id) := hc.at_ 0 rfl
              have q1 : wr.cell? ⟨g, o + k * 5 + 1, none⟩ = some (.string f.name) := hc.at_ 1 rfl
              have q2 : wr.cell? ⟨g, o + k * 5 + 2, none⟩ = some (.string f.type) := hc.at_ 2 rfl
              have q3 : wr.cell? ⟨g, o + k * 5 + 3, none⟩ = some (.int .i64 f.kind) := hc.at_ 3 rfl
              have q4 : wr.cell? ⟨g, o + k * 5 + 4, none⟩ = some (.int .i64 f.rule) := hc.at_ 4 rfl
              have b0 : wr.cell? ⟨w.heap.size, 0, none⟩ = some (.slice A b.length cap) := hbx.cell 0
              have hltw : w.heap.size < wr.heap.size := hbx.lt
              have hbnew := hbx.alloc (.cells (fieldCells f).toArray 36)
              have hbk := (RSl.fair RType.fair).below HB.out (hbw2.alloc hbw2.size (.cells (fieldCells f).toArray 36))
              have hbn1 := hb.alloc hb.size (.cells (fieldCells f).toArray 36)
              have Hbk := Lib.hid hbk
              clear hr hc hc0 hd hfe hes hbk
              by_cases h1 : f.rule = 1
              · rw [if_pos h1] at he
                obtain ⟨fid, fname, ftype, fkind, frule⟩ := f
                dsimp only at h1 he q0 q1 q2 q3 q4
                subst h1
                by_cases hk5 : fkind = 5
                · rw [if_pos hk5] at he
                  subst hk5
                  have hm := leastF_216 b (left := left) (by omega) ftype
                  go_wp2_with fail
                  refine (IH.out (by omega) ftype _ Hbk.out).mono ?_
                  rintro e w3 ⟨rfl, hb3⟩
                  have hbx3 := hbnew.below hb3 hbnew.lt
                  have hbn3 := below_via hbn1 hb3 hbn1.size
                  generalize leastF b left ftype = m at *
                  by_cases hm0 : m = 0
                  · subst hm0
                    rw [if_pos rfl] at he
                    go_wp2_with fail
                    go_ret
                    exact ⟨ret_i (by rw [Hl.out, ← he.out]; rfl), below_via hbw hbn3 hbw.size⟩
                  · rw [if_neg hm0] at he
                    have hm0' : ¬ (m : Int) = 0 := by omega
                    go_wp2_with fail
                    go_roundw
                    case rel => exact ⟨k + 1, n + m, by go_num, by omega, by go_num, by omega, he, hbx3, hbn3⟩
                    case measure => simp [intOf]; omega
                · rw [if_neg hk5] at he
                  go_wp2_with fail
                  go_roundw
                  case rel => exact ⟨k + 1, n + 1, by go_num, by omega, by go_num, by omega, he, hbnew, hbn1⟩
                  case measure => simp [intOf]; omega
              · rw [if_neg h1] at he
                go_wp2_with fail
                go_roundw
                case rel => exact ⟨k + 1, n, by go_num, by omega, rfl, by omega, he, hbnew, hbn1⟩
                case measure => simp [intOf]; omega
            · have hd : t.fields.drop k = [] := List.drop_eq_nil_of_le (by omega)
              rw [hd, leastGo] at he
              go_wp2_with fail
              go_ret
              exact ⟨ret_i (by rw [Hl.out, ← he.out]), hbw2⟩
end Go.Proofs.YtaadnlopifaagaaDoor
