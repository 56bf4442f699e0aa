/- The statement ValueOnce, proved, and its card: for every input the law returns true, and its arguments read as before. The one listed variable, book.words, reads as the nine words. -/
import Derived.Test.YtkdmcplomfcoeaaDoorRows
import Derived.Test.YtkdmcplomfcoeaaDoorCards
import Derived.Test.YtkdmcplomfcoeaaDoorTie
import Derived.Test.YtkdmcplomfcoeaaDoorLawOnce
import Derived.Test.YtkdmcplomfcoeaaDoorOpenBook
import Derived.Test.YtkdmcplomfcoeaaDoorOpenWords
import Derived.Lay
import Derived.LaidMore
import Derived.SevenTiedAt
import Derived.Stop.Joined
namespace Go.Proofs.YtkdmcplomfcoeaaDoor
open Go.RowKit Go.ChangeShapes Go.WideShapes Go.ChangeAt
open Go.ChangeMaps (open_string)

set_option maxRecDepth 100000 in
set_option maxHeartbeats 4000000 in
theorem valueOnce_lifted (os : Os) (started : os.Started) (H : Type) (enc : TypeId × Value → H) :
    ReturnsInHanded {} Tryd.checked os 4 .any (fun w args => (Rows.valueOnceSpec.pre enc Tryd.prog Tryd.f4 Rows.valueOnceRow.domain false w args ∧ laidMetH Tryd.prog Rows.valueOnceRow.laid w) ∧ sizedMet enc Tryd.prog Tryd.f4 (OpenSpec.ofChange Rows.valueOnceSpec) false w args)
      (Rows.valueOnceSpec.post enc Tryd.prog Tryd.f4 false true false false) := by
  refine returnsInHanded_of_change_and (C := Tryd.checked) (X := fun w _ => laidMetH Tryd.prog Rows.valueOnceRow.laid w) (fun _ _ _ hh h => h.of_heap hh) Tryd.own started (by kernel_rfl) Tryd.func4
    (ChangeSpec.witness_shaped (enc := enc) (C := Tryd.checked) (os := os) (X := fun w _ => laidMetH Tryd.prog Rows.valueOnceRow.laid w) false (World.laidAll Tryd.prog os Rows.valueOnceRow.laid) #[.agg #[.slice none 0 0], .string .empty, .string .empty] 8 (World.laidAll_os _ _ _)
      (World.shaped_of_ZipB (by kernel_rfl) (by kernel_rfl)) (by kernel_rfl) (by kernel_rfl) (by kernel_rfl)
      (by rw [MakeChecks.laidMetH_plain _ _ _ (by kernel_rfl)]; exact laidMet_laidAll _ (by kernel_rfl) (by kernel_rfl))) ?_
  intro W base args ds gs before hval0 hW _ hsz0 hL _
  have hW0 : Words W := by
    rw [MakeChecks.laidMetH_plain _ _ _ (by kernel_rfl)] at hL
    exact words_of_laid hL
  have hsz : (DataW.weightsEach Tryd.prog (Tryd.f4.params.toList ++ Rows.valueOnceSpec.plain.varTypes Tryd.prog) (ds ++ gs)).all (· ≤ reachBytes) = true := hsz0
  clear hsz0 hL
  have hval : ∀ (j : Nat) t v, Tryd.f4.params[j]? = some t → args[j]? = some v → Value.okWide Tryd.prog W .any base t v := hval0
  have hW' := hW
  obtain ⟨p, q, hA0, hV, rfl, _, _⟩ := hW
  have hA : DataW.TrodAll enc Tryd.prog W 0 (fun _ => true) true Tryd.f4.params.toList args.toList ds p := hA0
  rw [Tryd.params4] at hA hval hsz
  obtain ⟨v0, v1, v2, d0, d1, d2, p0, p1, p2, rfl, rfl, rfl, h0, h1, h2⟩ := trodAll_three hA
  obtain ⟨rfl, rfl⟩ := trodVars_none hV
  obtain ⟨c0, rfl, hc0⟩ := okWide_struct Tryd.underlying24 (hval 0 24 v0 rfl rfl)
  obtain ⟨s1, hvs1, hds1, hps1, hs1⟩ := open_string Tryd.underlying9 (hval 1 9 v1 rfl rfl) h1
  subst hvs1
  obtain ⟨s2, hvs2, hds2, hps2, hs2⟩ := open_string Tryd.underlying9 (hval 2 9 v2 rfl rfl) h2
  subst hvs2
  clear hA0 hval0
  simp only [List.append_nil] at hW'
  have hlt : ∀ x ∈ p0 ++ p1 ++ p2, x.block < W.heap.size := fun x hx => by simpa using hW'.lt x (by simpa using hx)
  obtain ⟨b0, _, hb0, hB0⟩ := opens_param (j := 0) hsz opens_book rfl rfl h0
  obtain ⟨A0, k0, hq0, hx0⟩ := hb0
  have hq0' : c0.toList = [.slice A0 b0.length k0] := hq0
  obtain rfl : c0 = #[.slice A0 b0.length k0] := by rw [← Array.toArray_toList (xs := c0), hq0']
  have hr0 : RSl 5 96 RType (Old W) W [.slice A0 b0.length k0] b0 := ⟨A0, k0, rfl, hx0⟩
  refine (valueOnce_any (Old W) _ b0 s1 s2 W hr0 hW0 hB0 hs2).mono fun e W' ⟨he, hb⟩ => ?_
  subst he
  refine ⟨_, rfl, post_law (pa := p0 ++ (p1 ++ p2)) (pv := []) hW' hb [] ?_ ?_ ?_⟩
  · exact trodAll_mk1 (shut_bool Tryd.underlying4 true)
  · exact trodAll_mk3 (Below.trod Tryd.laidOut (by kernel_rfl) (of_decide_eq_true (by kernel_rfl)) h0 hb (fun x hx => hlt x (by simp [hx]))) (Below.trod Tryd.laidOut (by kernel_rfl) (of_decide_eq_true (by kernel_rfl)) h1 hb (fun x hx => hlt x (by simp [hx]))) (Below.trod Tryd.laidOut (by kernel_rfl) (of_decide_eq_true (by kernel_rfl)) h2 hb (fun x hx => hlt x (by simp [hx])))
  · rfl

set_option maxRecDepth 100000 in
set_option maxHeartbeats 4000000 in
theorem valueOnce_closed : joinedFacts Tryd.checked.prog 4 Tryd.f4 Rows.valueOnceSpec Rows.valueOnceRow = true := by
  unfold joinedFacts
  repeat' (with_reducible refine (Bool.and_eq_true _ _).mpr ⟨?_, ?_⟩)
  all_goals (as_aux_lemma => kernel_rfl)

set_option maxRecDepth 100000 in
set_option maxHeartbeats 4000000 in
theorem valueOnce_holds : Rows.ValueOnceSaid :=
  OpenClaim.holds_of_wide 4 Tryd.f4 rfl rfl rfl rfl rfl rfl rfl ⟨rfl, rfl, rfl, rfl, rfl⟩ rfl rfl rfl rfl rfl (by as_aux_lemma => kernel_rfl) Tryd.func4 valueOnce_closed
    (of_decide_eq_true (by as_aux_lemma => kernel_rfl)) (by unfold Func.isWrapper; rw [if_neg (of_decide_eq_false (by as_aux_lemma => kernel_rfl))]; exact ⟨rfl, rfl⟩)
    (fun os started H enc _ => valueOnce_lifted os started H enc)

set_option maxRecDepth 100000 in
set_option maxHeartbeats 4000000 in
theorem valueOnceCard_holds : Rows.ValueOnceCardSaid :=
  Claim7.holds_tied_plain_at .later [] [.widerDeep] true (true, "2b198dafba765496dd0ee4cb7b595e6a2853bd45e5ced7d2bd4b1c86440fd038") false
    valueOnce_holds (fun _ h => by cases h) (by as_aux_lemma => kernel_rfl) (fun _ h => by cases h) valueOnce_row_tie rfl ⟨rfl, rfl⟩ (by as_aux_lemma => kernel_rfl) rfl
    (fun f fn hf hfn => by
      obtain rfl : f = 4 := Option.some.inj ((show Tryd.prog.funcNamed "patternbook/patternbookkeep.ValueOnce" = some 4 by as_aux_lemma => kernel_rfl).symm.trans hf) |>.symm
      obtain rfl : fn = Tryd.f4 := (Option.some.inj (Tryd.func4.symm.trans hfn)).symm
      exact ⟨(by as_aux_lemma => kernel_rfl), fun j t ht => by
        rw [Tryd.params4] at ht
        have h3 : t = 24 ∨ t = 9 := by
          rcases j with _ | j
          · exact (.inl (by simpa using ht.symm))
          · skip
            rcases j with _ | j
            · exact (.inr (by simpa using ht.symm))
            · skip
              rcases j with _ | j
              · exact (.inr (by simpa using ht.symm))
              · skip
                simp at ht
        rcases h3 with rfl | rfl
        · exact (show Tryd.prog.wantsStandIn 24 = false by as_aux_lemma => kernel_rfl)
        · exact (show Tryd.prog.wantsStandIn 9 = false by as_aux_lemma => kernel_rfl)⟩)
    (by as_aux_lemma => kernel_rfl)
end Go.Proofs.YtkdmcplomfcoeaaDoor
