/- The statement CompatWitness, proved, and its card: for every input the law returns true, and its arguments read as before. The one listed variable, book.words, reads as the nine words. -/
import Derived.Test.YtfidfakcbjoilaaDoorRows
import Derived.Test.YtfidfakcbjoilaaDoorCards
import Derived.Test.YtfidfakcbjoilaaDoorTie
import Derived.Test.YtfidfakcbjoilaaDoorLawWitness
import Derived.Test.YtfidfakcbjoilaaDoorOpens
import Derived.Lay
import Derived.LaidMore
import Derived.SevenTiedAt
import Derived.Stop.Joined
set_option linter.all false
set_option maxRecDepth 100000
set_option maxHeartbeats 8000000
namespace Go.Proofs.YtfidfakcbjoilaaDoor
open Go.RowKit Go.ChangeShapes Go.WideShapes Go.ChangeAt
open Go.ChangeMaps (open_string)
theorem compatWitness_lifted (os : Os) (started : os.Started) (H : Type) (enc : TypeId × Value → H) :
  ReturnsInHanded {} Tryd.checked os 5 .any (fun w args => (Rows.compatWitnessSpec.pre enc Tryd.prog Tryd.f5 Rows.compatWitnessRow.domain false w args ∧ laidMetH Tryd.prog Rows.compatWitnessRow.laid w) ∧ sizedMet enc Tryd.prog Tryd.f5 (OpenSpec.ofChange Rows.compatWitnessSpec) false w args)
   (Rows.compatWitnessSpec.post enc Tryd.prog Tryd.f5 false true false false) := by
 refine returnsInHanded_of_change_and (C := Tryd.checked) (X := fun w _ => laidMetH Tryd.prog Rows.compatWitnessRow.laid w) (fun _ _ _ hh h => h.of_heap hh) Tryd.own started (by kernel_rfl) Tryd.func5
  (ChangeSpec.witness_shaped (enc := enc) (C := Tryd.checked) (os := os) (X := fun w _ => laidMetH Tryd.prog Rows.compatWitnessRow.laid w) false (World.laidAll Tryd.prog os Rows.compatWitnessRow.laid) #[.agg #[.slice none 0 0], .agg #[.slice none 0 0], .string .empty] 8 (World.laidAll_os _ _ _)
   (World.shaped_of_ZipB (by kernel_rfl) (by kernel_rfl)) (by kernel_rfl) (by kernel_rfl) (by kernel_rfl)
   (by rw [MakeChecks.laidMetH_plain _ _ _ (by kernel_rfl)]; exact laidMet_laidAll _ (by kernel_rfl) (by kernel_rfl))) ?_
 intro W base args ds gs before hval0 hW _ hsz0 hL _
 have hW0 : Words W := by
  rw [MakeChecks.laidMetH_plain _ _ _ (by kernel_rfl)] at hL
  exact words_of_laid hL
 have hsz : (DataW.weightsEach Tryd.prog (Tryd.f5.params.toList ++ Rows.compatWitnessSpec.plain.varTypes Tryd.prog) (ds ++ gs)).all (· ≤ reachBytes) = true := hsz0
 clear hsz0 hL
 have hval : ∀ (j : Nat) t v, Tryd.f5.params[j]? = some t → args[j]? = some v → Value.okWide Tryd.prog W .any base t v := hval0
 have hW' := hW
 obtain ⟨p, q, hA0, hV, rfl, _, _⟩ := hW
 have hA : DataW.TrodAll enc Tryd.prog W 0 (fun _ => true) true Tryd.f5.params.toList args.toList ds p := hA0
 rw [Tryd.params5] at hA hval hsz
 obtain ⟨v0, v1, v2, d0, d1, d2, p0, p1, p2, rfl, rfl, rfl, h0, h1, h2⟩ := trodAll_three hA
 obtain ⟨rfl, rfl⟩ := trodVars_none hV
 obtain ⟨c0, rfl, hc0⟩ := okWide_struct Tryd.underlying24 (hval 0 24 v0 rfl rfl)
 obtain ⟨c1, rfl, hc1⟩ := okWide_struct Tryd.underlying24 (hval 1 24 v1 rfl rfl)
 obtain ⟨s2, hvs2, hds2, hps2, hs2⟩ := open_string Tryd.underlying9 (hval 2 9 v2 rfl rfl) h2
 subst hvs2
 clear hA0 hval0
 simp only [List.append_nil] at hW'
 have hlt : ∀ x ∈ p0 ++ p1 ++ p2, x.block < W.heap.size := fun x hx => by simpa using hW'.lt x (by simpa using hx)
 obtain ⟨b0, _, hb0, hB0⟩ := opens_param (j := 0) hsz opens_book rfl rfl h0
 obtain ⟨A0, k0, hq0, hx0⟩ := hb0
 have hq0' : c0.toList = [.slice A0 b0.length k0] := hq0
 obtain rfl : c0 = #[.slice A0 b0.length k0] := by rw [← Array.toArray_toList (xs := c0), hq0']
 have hr0 : RSl 5 96 RType (Old W) W [.slice A0 b0.length k0] b0 := ⟨A0, k0, rfl, hx0⟩
 obtain ⟨b1, _, hb1, hB1⟩ := opens_param (j := 1) hsz opens_book rfl rfl h1
 obtain ⟨A1, k1, hq1, hx1⟩ := hb1
 have hq1' : c1.toList = [.slice A1 b1.length k1] := hq1
 obtain rfl : c1 = #[.slice A1 b1.length k1] := by rw [← Array.toArray_toList (xs := c1), hq1']
 have hr1 : RSl 5 96 RType (Old W) W [.slice A1 b1.length k1] b1 := ⟨A1, k1, rfl, hx1⟩
 refine (compatWitness_any (Old W) _ _ b0 b1 s2 W hr0 hr1 hW0 hB0 hB1).mono fun e W' ⟨he, hb⟩ => ?_
 subst he
 refine ⟨_, rfl, post_law (pa := p0 ++ (p1 ++ p2)) (pv := []) hW' hb [] ?_ ?_ ?_⟩
 ·exact trodAll_mk1 (shut_bool Tryd.underlying4 true)
 ·exact trodAll_mk3 (Below.trod Tryd.laidOut (by kernel_rfl) (of_decide_eq_true (by kernel_rfl)) h0 hb (fun x hx => hlt x (by simp [hx]))) (Below.trod Tryd.laidOut (by kernel_rfl) (of_decide_eq_true (by kernel_rfl)) h1 hb (fun x hx => hlt x (by simp [hx]))) (Below.trod Tryd.laidOut (by kernel_rfl) (of_decide_eq_true (by kernel_rfl)) h2 hb (fun x hx => hlt x (by simp [hx])))
 ·rfl
theorem compatWitness_closed : joinedFacts Tryd.checked.prog 5 Tryd.f5 Rows.compatWitnessSpec Rows.compatWitnessRow = true := by
 unfold joinedFacts
 repeat' (with_reducible refine (Bool.and_eq_true _ _).mpr ⟨?_, ?_⟩)
 all_goals (as_aux_lemma => kernel_rfl)
theorem compatWitness_holds : Rows.CompatWitnessSaid :=
 OpenClaim.holds_of_wide 5 Tryd.f5 rfl rfl rfl rfl rfl rfl rfl ⟨rfl, rfl, rfl, rfl, rfl⟩ rfl rfl rfl rfl rfl (by as_aux_lemma => kernel_rfl) Tryd.func5 compatWitness_closed
  (of_decide_eq_true (by as_aux_lemma => kernel_rfl)) (by unfold Func.isWrapper; rw [if_neg (of_decide_eq_false (by as_aux_lemma => kernel_rfl))]; exact ⟨rfl, rfl⟩)
  (fun os started H enc _ => compatWitness_lifted os started H enc)
theorem compatWitnessCard_holds : Rows.CompatWitnessCardSaid :=
 Claim7.holds_tied_plain_at .later [] _ _ _ _
  compatWitness_holds (fun _ h => by cases h) (by as_aux_lemma => kernel_rfl) (fun _ h => by cases h) compatWitness_row_tie rfl ⟨rfl, rfl⟩ (by as_aux_lemma => kernel_rfl) rfl
  (fun f fn hf hfn => by
   obtain rfl : f = 5 := Option.some.inj ((show Tryd.prog.funcNamed "patternbook/patternbookkeep.CompatWitness" = some 5 by as_aux_lemma => kernel_rfl).symm.trans hf) |>.symm
   obtain rfl : fn = Tryd.f5 := (Option.some.inj (Tryd.func5.symm.trans hfn)).symm
   exact ⟨(by as_aux_lemma => kernel_rfl), fun j t ht => by
    rw [Tryd.params5] at ht
    have h3 : t = 24 ∨ t = 9 := by
     rcases j with _ | j
     ·exact (.inl (by simpa using ht.symm))
     ·skip
      rcases j with _ | j
      ·exact (.inl (by simpa using ht.symm))
      ·skip
       rcases j with _ | j
       ·exact (.inr (by simpa using ht.symm))
       ·skip
        simp at ht
    rcases h3 with rfl | rfl
    ·exact (show Tryd.prog.wantsStandIn 24 = false by as_aux_lemma => kernel_rfl)
    ·exact (show Tryd.prog.wantsStandIn 9 = false by as_aux_lemma => kernel_rfl)⟩)
  (by as_aux_lemma => kernel_rfl)
end Go.Proofs.YtfidfakcbjoilaaDoor
