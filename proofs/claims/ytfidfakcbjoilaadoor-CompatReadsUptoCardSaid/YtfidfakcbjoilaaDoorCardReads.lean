/- The statement CompatReads in its second form (input up to the given bulk), proved, and its card: for every input the law returns true, and its arguments read as before. The one listed variable, book.words, reads as the nine words. -/
import Derived.Test.YtfidfakcbjoilaaDoorRows
import Derived.Test.YtfidfakcbjoilaaDoorCards
import Derived.Test.YtfidfakcbjoilaaDoorTie
import Derived.Test.YtfidfakcbjoilaaDoorLawCompat
import Derived.Test.YtfidfakcbjoilaaDoorOpens
import Derived.Lay
import Derived.LaidMore
import Derived.SevenTiedAt
import Derived.Deep.DeepHandedRow
import Derived.Stop.Joined
namespace Go.Proofs.YtfidfakcbjoilaaDoor
open Go.RowKit Go.ChangeShapes Go.WideShapes Go.ChangeAt
open Go.ChangeMaps (open_string)

set_option maxRecDepth 100000 in
set_option maxHeartbeats 4000000 in
theorem compatReads_reads (os : Os) {H : Type} (enc : TypeId × Value → H) : ∃ places, DataW.whole enc Tryd.prog ((World.laidAll Tryd.prog os Rows.compatReadsUptoRow.laid).forCall (fun _ _ => 0) ⟨#[], #[.agg #[.slice none 0 0], .agg #[.slice none 0 0], .string .empty, .agg #[.int .i64 0, .int .i64 0, .string .empty, .slice none 0 0, .slice none 0 0]], []⟩).memory Tryd.f4.params.toList Rows.compatReadsSpec.vars false (#[.agg #[.slice none 0 0], .agg #[.slice none 0 0], .string .empty, .agg #[.int .i64 0, .int .i64 0, .string .empty, .slice none 0 0, .slice none 0 0]] : Array Value).toList 8 =
    some ([.agg [.nil], .agg [.nil], .lit (.string []), .agg [.lit (.int .i64 0), .lit (.int .i64 0), .lit (.string []), .nil, .nil]], [], places) :=
  ⟨[], by kernel_rfl⟩

set_option maxRecDepth 100000 in
set_option maxHeartbeats 4000000 in
theorem compatReads_lifted (os : Os) (started : os.Started) (H : Type) (enc : TypeId × Value → H) (F : Stop.Interp) :
    ReturnsInHanded {} Tryd.checked os 4 .any ((Rows.OpenSpec.upto Rows.compatReadsSpec).preRow enc Tryd.prog Tryd.f4 Rows.compatReadsUptoRow.domain false Rows.compatReadsUptoRow.laid) (((Rows.OpenSpec.upto Rows.compatReadsSpec).at F).post enc Tryd.prog Tryd.f4 false true false false) := by
  obtain ⟨places, hx⟩ := compatReads_reads os enc
  have hsh : ((World.laidAll Tryd.prog os Rows.compatReadsUptoRow.laid).forCall (fun _ _ => 0) ⟨#[], #[.agg #[.slice none 0 0], .agg #[.slice none 0 0], .string .empty, .agg #[.int .i64 0, .int .i64 0, .string .empty, .slice none 0 0, .slice none 0 0]], []⟩).Shaped Tryd.checked.prog := World.shaped_of_ZipB (by kernel_rfl) (by kernel_rfl)
  have hok : Input.okWideB Tryd.checked.prog ((World.laidAll Tryd.prog os Rows.compatReadsUptoRow.laid).forCall (fun _ _ => 0) ⟨#[], #[.agg #[.slice none 0 0], .agg #[.slice none 0 0], .string .empty, .agg #[.int .i64 0, .int .i64 0, .string .empty, .slice none 0 0, .slice none 0 0]], []⟩) 4 ⟨#[], #[.agg #[.slice none 0 0], .agg #[.slice none 0 0], .string .empty, .agg #[.int .i64 0, .int .i64 0, .string .empty, .slice none 0 0, .slice none 0 0]], []⟩ = true := by kernel_rfl
  refine returnsInHanded_of_row (C := Tryd.checked) (s := Rows.OpenSpec.upto Rows.compatReadsSpec) Tryd.own started (by kernel_rfl) Tryd.func4
    ⟨World.laidAll Tryd.prog os Rows.compatReadsUptoRow.laid, fun _ _ => 0, ⟨#[], #[.agg #[.slice none 0 0], .agg #[.slice none 0 0], .string .empty, .agg #[.int .i64 0, .int .i64 0, .string .empty, .slice none 0 0, .slice none 0 0]], []⟩, World.laidAll_os _ _ _, hsh, (Input.okWide_of_okWideB (base := 0) hok).1, (Input.okWide_of_okWideB hok).2,
      OpenSpec.preRow_of_cond 8 hx (by kernel_rfl) (fun k hk => by cases hk; kernel_rfl) (by kernel_rfl) (by rw [MakeChecks.laidMetH_plain _ _ _ (by kernel_rfl)]; exact laidMet_laidAll _ (by kernel_rfl) (by kernel_rfl)), by
      simp [Assume.holds]⟩ ?_
  clear hsh hok hx
  intro W base args ds gs before hval0 hW _ hcond hsz0 hL _ _
  have hW0 : Words W := by
    rw [MakeChecks.laidMetH_plain _ _ _ (by kernel_rfl)] at hL
    exact words_of_laid hL
  have hsz : (DataW.weightsEach Tryd.prog (Tryd.f4.params.toList ++ (Rows.OpenSpec.upto Rows.compatReadsSpec).bare.plain.varTypes Tryd.prog) (ds ++ gs)).all (· ≤ reachBytes) = true := hsz0
  have hbulk : Rows.uptoSmall H (ds ++ gs) = true := hcond _ rfl
  clear hsz0 hL hcond
  have hval : ∀ (j : Nat) t v, Tryd.f4.params[j]? = some t → args[j]? = some v → Value.okWide Tryd.prog W .any base t v := hval0
  have hW' := hW
  obtain ⟨p, q, hA0, hV, rfl, _, _⟩ := hW
  have hA : DataW.TrodAll enc Tryd.prog W 0 (fun _ => true) true Tryd.f4.params.toList args.toList ds p := hA0
  rw [Tryd.params4] at hA hval hsz
  obtain ⟨v0, v1, v2, v3, d0, d1, d2, d3, p0, p1, p2, p3, rfl, rfl, rfl, h0, h1, h2, h3⟩ := trodAll_four hA
  obtain ⟨rfl, rfl⟩ := trodVars_none hV
  obtain ⟨c0, rfl, hc0⟩ := okWide_struct Tryd.underlying24 (hval 0 24 v0 rfl rfl)
  obtain ⟨c1, rfl, hc1⟩ := okWide_struct Tryd.underlying24 (hval 1 24 v1 rfl rfl)
  obtain ⟨s2, hvs2, hds2, hps2, hs2⟩ := open_string Tryd.underlying9 (hval 2 9 v2 rfl rfl) h2
  subst hvs2
  obtain ⟨c3, rfl, hc3⟩ := okWide_struct Tryd.underlying28 (hval 3 28 v3 rfl rfl)
  clear hA0 hval0
  simp only [List.append_nil] at hW' hbulk
  have hlt : ∀ x ∈ p0 ++ p1 ++ p2 ++ p3, x.block < W.heap.size := fun x hx => by simpa using hW'.lt x (by simpa using hx)
  obtain ⟨b0, _, hb0, hB0⟩ := opens_param (j := 0) hsz opens_book rfl rfl h0
  obtain ⟨A0, k0, hq0, hx0⟩ := hb0
  have hq0' : c0.toList = [.slice A0 b0.length k0] := hq0
  obtain rfl : c0 = #[.slice A0 b0.length k0] := by rw [← Array.toArray_toList (xs := c0), hq0']
  have hr0 : RSl 5 96 RType (Old W) W [.slice A0 b0.length k0] b0 := ⟨A0, k0, rfl, hx0⟩
  obtain ⟨b1, _, hb1, hB1⟩ := opens_param (j := 1) hsz opens_book rfl rfl h1
  obtain ⟨A1, k1, hq1, hx1⟩ := hb1
  have hq1' : c1.toList = [.slice A1 b1.length k1] := hq1
  obtain rfl : c1 = #[.slice A1 b1.length k1] := by rw [← Array.toArray_toList (xs := c1), hq1']
  have hr1 : RSl 5 96 RType (Old W) W [.slice A1 b1.length k1] b1 := ⟨A1, k1, rfl, hx1⟩
  have hv3 : ∃ v, (Value.agg c3).cells.toList.length = 5 ∧ RVal (Old W) W (Value.agg c3).cells.toList v ∧ (okV v ∧ depthV v ≤ Rows.uptoBulk d3 ∧ countV v ≤ Rows.uptoBulk d3) := by
    obtain ⟨fuel, hf⟩ := h3
    exact open_value _ fuel _ (d3, p3) (Nat.le_refl _) (fun n hn => by
      have := List.all_eq_true.1 hsz _ (DataW.weights_mem_each (j := 3) rfl rfl n hn)
      simpa using this) hf
  obtain ⟨v3, hl3, hr3, ho3, hd3, hn3⟩ := hv3
  replace hr3 : RVal (Old W) W c3.toList v3 := hr3
  have hbk3 : Rows.uptoBulk d3 ≤ 4611686018427387904 := by
    have h1 : Rows.uptoBulkAll [d0, d1, d2, d3] ≤ 1048576 := by simpa [Rows.uptoSmall] using hbulk
    simp only [Rows.uptoBulkAll] at h1
    omega
  obtain ⟨cl3, rfl⟩ : ∃ l : List Value, c3 = l.toArray := ⟨c3.toList, by simp⟩
  refine (compatReads_any (Old W) (Old W) _ _ b0 b1 s2 cl3 v3 W hr0 hr1 (by simpa using hr3) hW0 hB0 hB1 ho3 (by omega) (by omega)).mono fun e W' ⟨he, hb⟩ => ?_
  subst he
  refine ⟨_, rfl, post_law (pa := p0 ++ (p1 ++ (p2 ++ p3))) (pv := []) hW' hb [] ?_ ?_ ?_⟩
  · exact trodAll_mk1 (shut_bool Tryd.underlying4 true)
  · exact trodAll_mk4 (Below.trod Tryd.laidOut (by kernel_rfl) (of_decide_eq_true (by kernel_rfl)) h0 hb (fun x hx => hlt x (by simp [hx]))) (Below.trod Tryd.laidOut (by kernel_rfl) (of_decide_eq_true (by kernel_rfl)) h1 hb (fun x hx => hlt x (by simp [hx]))) (Below.trod Tryd.laidOut (by kernel_rfl) (of_decide_eq_true (by kernel_rfl)) h2 hb (fun x hx => hlt x (by simp [hx]))) (Below.trod Tryd.laidOut (by kernel_rfl) (of_decide_eq_true (by kernel_rfl)) h3 hb (fun x hx => hlt x (by simp [hx])))
  · rfl

set_option maxRecDepth 100000 in
set_option maxHeartbeats 4000000 in
theorem compatReads_saidUpto : Rows.CompatReadsUptoSaid :=
  OpenClaim.holds_of_cond 4 Tryd.f4 rfl rfl rfl rfl rfl rfl rfl ⟨rfl, rfl, rfl, rfl, rfl⟩ rfl rfl rfl rfl rfl (by as_aux_lemma => kernel_rfl) Tryd.func4 (by as_aux_lemma => kernel_rfl)
    (of_decide_eq_true (by as_aux_lemma => kernel_rfl)) (by unfold Func.isWrapper; rw [if_neg (of_decide_eq_false (by as_aux_lemma => kernel_rfl))]; exact ⟨rfl, rfl⟩)
    (fun os started H enc _ F => by rw [OpenClaim.pre_eq_preRow]; exact compatReads_lifted os started H enc F)

set_option maxRecDepth 100000 in
set_option maxHeartbeats 4000000 in
theorem compatReadsUptoCard_holds : Rows.CompatReadsUptoCardSaid :=
  Claim7.holds_tied_plain_at .later [] _ _ _ _ compatReads_saidUpto (fun _ h => by cases h) (by as_aux_lemma => kernel_rfl) (fun _ h => by cases h) compatReadsUpto_row_tie rfl ⟨rfl, rfl⟩ (by as_aux_lemma => kernel_rfl) rfl
    (fun f fn hf hfn => by
      obtain rfl : f = 4 := Option.some.inj ((show Tryd.prog.funcNamed "patternbook/patternbookkeep.CompatReads" = some 4 by as_aux_lemma => kernel_rfl).symm.trans hf) |>.symm
      obtain rfl : fn = Tryd.f4 := (Option.some.inj (Tryd.func4.symm.trans hfn)).symm
      exact ⟨(by as_aux_lemma => kernel_rfl), fun j t ht => by
        rw [Tryd.params4] at ht
        have h3 : t = 24 ∨ t = 9 ∨ t = 28 := by
          rcases j with _ | j
          · exact (.inl (by simpa using ht.symm))
          · skip
            rcases j with _ | j
            · exact (.inl (by simpa using ht.symm))
            · skip
              rcases j with _ | j
              · exact (.inr (.inl (by simpa using ht.symm)))
              · skip
                rcases j with _ | j
                · exact (.inr (.inr (by simpa using ht.symm)))
                · skip
                  simp at ht
        rcases h3 with rfl | rfl | rfl
        · exact (show Tryd.prog.wantsStandIn 24 = false by as_aux_lemma => kernel_rfl)
        · exact (show Tryd.prog.wantsStandIn 9 = false by as_aux_lemma => kernel_rfl)
        · exact (show Tryd.prog.wantsStandIn 28 = false by as_aux_lemma => kernel_rfl)⟩)
    (by as_aux_lemma => kernel_rfl)
end Go.Proofs.YtfidfakcbjoilaaDoor
