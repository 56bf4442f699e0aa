/- The statement MergeFields, proved, and its card: for every input the law returns true, and its arguments read as before. The one listed variable, book.words, reads as the nine words. -/
import Derived.Test.YtaadnlopifaagaaDoorRows
import Derived.Test.YtaadnlopifaagaaDoorCards
import Derived.Test.YtaadnlopifaagaaDoorTie
import Derived.Test.YtaadnlopifaagaaDoorLawFields
import Derived.Test.YtaadnlopifaagaaDoorOpenBook
import Derived.Test.YtaadnlopifaagaaDoorOpenWords
import Derived.Test.YtaadnlopifaagaaDoorOpenFive
import Derived.Lay
import Derived.LaidMore
import Derived.SevenTiedAt
import Derived.Stop.Joined
namespace Go.Proofs.YtaadnlopifaagaaDoor
open Go.RowKit Go.ChangeShapes Go.WideShapes Go.ChangeAt
open Go.ChangeMaps (open_string)

set_option maxRecDepth 100000 in
set_option maxHeartbeats 4000000 in
theorem mergeFields_lifted (os : Os) (started : os.Started) (H : Type) (enc : TypeId × Value → H) :
    ReturnsInHanded {} Tryd.checked os 5 .any (fun w args => (Rows.mergeFieldsSpec.pre enc Tryd.prog Tryd.f5 Rows.mergeFieldsRow.domain false w args ∧ laidMetH Tryd.prog Rows.mergeFieldsRow.laid w) ∧ sizedMet enc Tryd.prog Tryd.f5 (OpenSpec.ofChange Rows.mergeFieldsSpec) false w args)
      (Rows.mergeFieldsSpec.post enc Tryd.prog Tryd.f5 false true false false) := by
  refine returnsInHanded_of_change_and (C := Tryd.checked) (X := fun w _ => laidMetH Tryd.prog Rows.mergeFieldsRow.laid w) (fun _ _ _ hh h => h.of_heap hh) Tryd.own started (by kernel_rfl) Tryd.func5
    (ChangeSpec.witness_shaped (enc := enc) (C := Tryd.checked) (os := os) (X := fun w _ => laidMetH Tryd.prog Rows.mergeFieldsRow.laid w) false (World.laidAll Tryd.prog os Rows.mergeFieldsRow.laid) #[.agg #[.slice none 0 0], .agg #[.slice none 0 0], .agg #[.slice none 0 0], .string .empty, .int .i64 0] 8 (World.laidAll_os _ _ _)
      (World.shaped_of_ZipB (by kernel_rfl) (by kernel_rfl)) (by kernel_rfl) (by kernel_rfl) (by kernel_rfl)
      (by rw [MakeChecks.laidMetH_plain _ _ _ (by kernel_rfl)]; exact laidMet_laidAll _ (by kernel_rfl) (by kernel_rfl))) ?_
  intro W base args ds gs before hval0 hW _ hsz0 hL _
  have hW0 : Words W := by
    rw [MakeChecks.laidMetH_plain _ _ _ (by kernel_rfl)] at hL
    exact words_of_laid hL
  have hsz : (DataW.weightsEach Tryd.prog (Tryd.f5.params.toList ++ Rows.mergeFieldsSpec.plain.varTypes Tryd.prog) (ds ++ gs)).all (· ≤ reachBytes) = true := hsz0
  clear hsz0 hL
  have hval : ∀ (j : Nat) t v, Tryd.f5.params[j]? = some t → args[j]? = some v → Value.okWide Tryd.prog W .any base t v := hval0
  have hW' := hW
  obtain ⟨p, q, hA0, hV, rfl, _, _⟩ := hW
  have hA : DataW.TrodAll enc Tryd.prog W 0 (fun _ => true) true Tryd.f5.params.toList args.toList ds p := hA0
  rw [Tryd.params5] at hA hval hsz
  obtain ⟨v0, v1, v2, v3, v4, d0, d1, d2, d3, d4, p0, p1, p2, p3, p4, rfl, rfl, rfl, h0, h1, h2, h3, h4⟩ := trodAll_five hA
  obtain ⟨rfl, rfl⟩ := trodVars_none hV
  obtain ⟨c0, rfl, hc0⟩ := okWide_struct Tryd.underlying24 (hval 0 24 v0 rfl rfl)
  obtain ⟨c1, rfl, hc1⟩ := okWide_struct Tryd.underlying24 (hval 1 24 v1 rfl rfl)
  obtain ⟨c2, rfl, hc2⟩ := okWide_struct Tryd.underlying24 (hval 2 24 v2 rfl rfl)
  obtain ⟨s3, hvs3, hds3, hps3, hs3⟩ := open_string Tryd.underlying9 (hval 3 9 v3 rfl rfl) h3
  subst hvs3
  obtain ⟨i4, hvs4, hds4, hps4, hi4⟩ := open_int Tryd.underlying3 (hval 4 3 v4 rfl rfl) h4
  subst hvs4
  clear hA0 hval0
  simp only [List.append_nil] at hW'
  have hlt : ∀ x ∈ p0 ++ p1 ++ p2 ++ p3 ++ p4, x.block < W.heap.size := fun x hx => by simpa using hW'.lt x (by simpa using hx)
  obtain ⟨b0, _, hb0, hB0⟩ := opens_param (j := 0) hsz opens_book rfl rfl h0
  obtain ⟨A0, k0, hq0, hx0⟩ := hb0
  have hq0' : c0.toList = [.slice A0 b0.length k0] := hq0
  obtain rfl : c0 = #[.slice A0 b0.length k0] := by rw [← Array.toArray_toList (xs := c0), hq0']
  have hr0 : RSl 5 96 RType (Old W) W [.slice A0 b0.length k0] b0 := ⟨A0, k0, rfl, hx0⟩
  obtain ⟨b1, _, hb1, hB1⟩ := opens_param (j := 1) hsz opens_book rfl rfl h1
  obtain ⟨A1, k1, hq1, hx1⟩ := hb1
  have hq1' : c1.toList = [.slice A1 b1.length k1] := hq1
  obtain rfl : c1 = #[.slice A1 b1.length k1] := by rw [← Array.toArray_toList (xs := c1), hq1']
  have hr1 : RSl 5 96 RType (Old W) W [.slice A1 b1.length k1] b1 := ⟨A1, k1, rfl, hx1⟩
  obtain ⟨b2, _, hb2, hB2⟩ := opens_param (j := 2) hsz opens_book rfl rfl h2
  obtain ⟨A2, k2, hq2, hx2⟩ := hb2
  have hq2' : c2.toList = [.slice A2 b2.length k2] := hq2
  obtain rfl : c2 = #[.slice A2 b2.length k2] := by rw [← Array.toArray_toList (xs := c2), hq2']
  have hr2 : RSl 5 96 RType (Old W) W [.slice A2 b2.length k2] b2 := ⟨A2, k2, rfl, hx2⟩
  refine (mergeFields_any (Old W) _ _ _ b0 b1 b2 s3 i4 W hr0 hr1 hr2 hW0 hB0 hB1 hB2).mono fun e W' ⟨he, hb⟩ => ?_
  subst he
  refine ⟨_, rfl, post_law (pa := p0 ++ (p1 ++ (p2 ++ (p3 ++ p4)))) (pv := []) hW' hb [] ?_ ?_ ?_⟩
  · exact trodAll_mk1 (shut_bool Tryd.underlying4 true)
  · exact trodAll_mk5 (Below.trod Tryd.laidOut (by kernel_rfl) (of_decide_eq_true (by kernel_rfl)) h0 hb (fun x hx => hlt x (by simp [hx]))) (Below.trod Tryd.laidOut (by kernel_rfl) (of_decide_eq_true (by kernel_rfl)) h1 hb (fun x hx => hlt x (by simp [hx]))) (Below.trod Tryd.laidOut (by kernel_rfl) (of_decide_eq_true (by kernel_rfl)) h2 hb (fun x hx => hlt x (by simp [hx]))) (Below.trod Tryd.laidOut (by kernel_rfl) (of_decide_eq_true (by kernel_rfl)) h3 hb (fun x hx => hlt x (by simp [hx]))) (Below.trod Tryd.laidOut (by kernel_rfl) (of_decide_eq_true (by kernel_rfl)) h4 hb (fun x hx => hlt x (by simp [hx])))
  · rfl

set_option maxRecDepth 100000 in
set_option maxHeartbeats 4000000 in
theorem mergeFields_closed : joinedFacts Tryd.checked.prog 5 Tryd.f5 Rows.mergeFieldsSpec Rows.mergeFieldsRow = true := by
  unfold joinedFacts
  repeat' (with_reducible refine (Bool.and_eq_true _ _).mpr ⟨?_, ?_⟩)
  all_goals (as_aux_lemma => kernel_rfl)

set_option maxRecDepth 100000 in
set_option maxHeartbeats 4000000 in
theorem mergeFields_holds : Rows.MergeFieldsSaid :=
  OpenClaim.holds_of_wide 5 Tryd.f5 rfl rfl rfl rfl rfl rfl rfl ⟨rfl, rfl, rfl, rfl, rfl⟩ rfl rfl rfl rfl rfl (by as_aux_lemma => kernel_rfl) Tryd.func5 mergeFields_closed
    (of_decide_eq_true (by as_aux_lemma => kernel_rfl)) (by unfold Func.isWrapper; rw [if_neg (of_decide_eq_false (by as_aux_lemma => kernel_rfl))]; exact ⟨rfl, rfl⟩)
    (fun os started H enc _ => mergeFields_lifted os started H enc)

set_option maxRecDepth 100000 in
set_option maxHeartbeats 4000000 in
theorem mergeFieldsCard_holds : Rows.MergeFieldsCardSaid :=
  Claim7.holds_tied_plain_at .later [] [.widerDeep] true (true, "c574536e287ef0c7de503ad85f4d7ed37c62c2f7538df87ed06b2342edc3997a") false
    mergeFields_holds (fun _ h => by cases h) (by as_aux_lemma => kernel_rfl) (fun _ h => by cases h) mergeFields_row_tie rfl ⟨rfl, rfl⟩ (by as_aux_lemma => kernel_rfl) rfl
    (fun f fn hf hfn => by
      obtain rfl : f = 5 := Option.some.inj ((show Tryd.prog.funcNamed "patternbook/patternbookkeep.MergeFields" = some 5 by as_aux_lemma => kernel_rfl).symm.trans hf) |>.symm
      obtain rfl : fn = Tryd.f5 := (Option.some.inj (Tryd.func5.symm.trans hfn)).symm
      exact ⟨(by as_aux_lemma => kernel_rfl), fun j t ht => by
        rw [Tryd.params5] at ht
        have h3 : t = 24 ∨ t = 9 ∨ t = 3 := by
          rcases j with _ | j
          · exact (.inl (by simpa using ht.symm))
          · skip
            rcases j with _ | j
            · exact (.inl (by simpa using ht.symm))
            · skip
              rcases j with _ | j
              · exact (.inl (by simpa using ht.symm))
              · skip
                rcases j with _ | j
                · exact (.inr (.inl (by simpa using ht.symm)))
                · skip
                  rcases j with _ | j
                  · exact (.inr (.inr (by simpa using ht.symm)))
                  · skip
                    simp at ht
        rcases h3 with rfl | rfl | rfl
        · exact (show Tryd.prog.wantsStandIn 24 = false by as_aux_lemma => kernel_rfl)
        · exact (show Tryd.prog.wantsStandIn 9 = false by as_aux_lemma => kernel_rfl)
        · exact (show Tryd.prog.wantsStandIn 3 = false by as_aux_lemma => kernel_rfl)⟩)
    (by as_aux_lemma => kernel_rfl)
end Go.Proofs.YtaadnlopifaagaaDoor
