/- The statement CompatSelf in its second form (input up to the given bulk), proved, and its card: for every input the law returns true, and its arguments read as before. The one listed variable, book.words, reads as the nine words. -/
import Derived.Test.YtfidfakcbjoilaaDoorRows
import Derived.Test.YtfidfakcbjoilaaDoorCards
import Derived.Test.YtfidfakcbjoilaaDoorTie
import Derived.Test.YtfidfakcbjoilaaDoorLawCompat
import Derived.Test.YtfidfakcbjoilaaDoorOpens
import Derived.Lay
import Derived.LaidMore
import Derived.SevenTiedAt
import Derived.Deep.DeepHandedRow
import Derived.Stop.Joined
namespace Go.Proofs.YtfidfakcbjoilaaDoor
open Go.RowKit Go.ChangeShapes Go.WideShapes Go.ChangeAt
open Go.ChangeMaps (open_string)

set_option maxRecDepth 100000 in
set_option maxHeartbeats 4000000 in
theorem compatSelf_reads (os : Os) {H : Type} (enc : TypeId × Value → H) : ∃ places, DataW.whole enc Tryd.prog ((World.laidAll Tryd.prog os Rows.compatSelfUptoRow.laid).forCall (fun _ _ => 0) ⟨#[], #[.agg #[.slice none 0 0], .string .empty, .agg #[.int .i64 0, .int .i64 0, .string .empty, .slice none 0 0, .slice none 0 0]], []⟩).memory Tryd.f3.params.toList Rows.compatSelfSpec.vars false (#[.agg #[.slice none 0 0], .string .empty, .agg #[.int .i64 0, .int .i64 0, .string .empty, .slice none 0 0, .slice none 0 0]] : Array Value).toList 8 =
    some ([.agg [.nil], .lit (.string []), .agg [.lit (.int .i64 0), .lit (.int .i64 0), .lit (.string []), .nil, .nil]], [], places) :=
  ⟨[], by kernel_rfl⟩

set_option maxRecDepth 100000 in
set_option maxHeartbeats 4000000 in
theorem compatSelf_lifted (os : Os) (started : os.Started) (H : Type) (enc : TypeId × Value → H) (F : Stop.Interp) :
    ReturnsInHanded {} Tryd.checked os 3 .any ((Rows.OpenSpec.upto Rows.compatSelfSpec).preRow enc Tryd.prog Tryd.f3 Rows.compatSelfUptoRow.domain false Rows.compatSelfUptoRow.laid) (((Rows.OpenSpec.upto Rows.compatSelfSpec).at F).post enc Tryd.prog Tryd.f3 false true false false) := by
  obtain ⟨places, hx⟩ := compatSelf_reads os enc
  have hsh : ((World.laidAll Tryd.prog os Rows.compatSelfUptoRow.laid).forCall (fun _ _ => 0) ⟨#[], #[.agg #[.slice none 0 0], .string .empty, .agg #[.int .i64 0, .int .i64 0, .string .empty, .slice none 0 0, .slice none 0 0]], []⟩).Shaped Tryd.checked.prog := World.shaped_of_ZipB (by kernel_rfl) (by kernel_rfl)
  have hok : Input.okWideB Tryd.checked.prog ((World.laidAll Tryd.prog os Rows.compatSelfUptoRow.laid).forCall (fun _ _ => 0) ⟨#[], #[.agg #[.slice none 0 0], .string .empty, .agg #[.int .i64 0, .int .i64 0, .string .empty, .slice none 0 0, .slice none 0 0]], []⟩) 3 ⟨#[], #[.agg #[.slice none 0 0], .string .empty, .agg #[.int .i64 0, .int .i64 0, .string .empty, .slice none 0 0, .slice none 0 0]], []⟩ = true := by kernel_rfl
  refine returnsInHanded_of_row (C := Tryd.checked) (s := Rows.OpenSpec.upto Rows.compatSelfSpec) Tryd.own started (by kernel_rfl) Tryd.func3
    ⟨World.laidAll Tryd.prog os Rows.compatSelfUptoRow.laid, fun _ _ => 0, ⟨#[], #[.agg #[.slice none 0 0], .string .empty, .agg #[.int .i64 0, .int .i64 0, .string .empty, .slice none 0 0, .slice none 0 0]], []⟩, World.laidAll_os _ _ _, hsh, (Input.okWide_of_okWideB (base := 0) hok).1, (Input.okWide_of_okWideB hok).2,
      OpenSpec.preRow_of_cond 8 hx (by kernel_rfl) (fun k hk => by cases hk; kernel_rfl) (by kernel_rfl) (by rw [MakeChecks.laidMetH_plain _ _ _ (by kernel_rfl)]; exact laidMet_laidAll _ (by kernel_rfl) (by kernel_rfl)), by
      simp [Assume.holds]⟩ ?_
  clear hsh hok hx
  intro W base args ds gs before hval0 hW _ hcond hsz0 hL _ _
  have hW0 : Words W := by
    rw [MakeChecks.laidMetH_plain _ _ _ (by kernel_rfl)] at hL
    exact words_of_laid hL
  have hsz : (DataW.weightsEach Tryd.prog (Tryd.f3.params.toList ++ (Rows.OpenSpec.upto Rows.compatSelfSpec).bare.plain.varTypes Tryd.prog) (ds ++ gs)).all (· ≤ reachBytes) = true := hsz0
  have hbulk : Rows.uptoSmall H (ds ++ gs) = true := hcond _ rfl
  clear hsz0 hL hcond
  have hval : ∀ (j : Nat) t v, Tryd.f3.params[j]? = some t → args[j]? = some v → Value.okWide Tryd.prog W .any base t v := hval0
  have hW' := hW
  obtain ⟨p, q, hA0, hV, rfl, _, _⟩ := hW
  have hA : DataW.TrodAll enc Tryd.prog W 0 (fun _ => true) true Tryd.f3.params.toList args.toList ds p := hA0
  rw [Tryd.params3] at hA hval hsz
  obtain ⟨v0, v1, v2, d0, d1, d2, p0, p1, p2, rfl, rfl, rfl, h0, h1, h2⟩ := trodAll_three hA
  obtain ⟨rfl, rfl⟩ := trodVars_none hV
  obtain ⟨c0, rfl, hc0⟩ := okWide_struct Tryd.underlying24 (hval 0 24 v0 rfl rfl)
  obtain ⟨s1, hvs1, hds1, hps1, hs1⟩ := open_string Tryd.underlying9 (hval 1 9 v1 rfl rfl) h1
  subst hvs1
  obtain ⟨c2, rfl, hc2⟩ := okWide_struct Tryd.underlying28 (hval 2 28 v2 rfl rfl)
  clear hA0 hval0
  simp only [List.append_nil] at hW' hbulk
  have hlt : ∀ x ∈ p0 ++ p1 ++ p2, x.block < W.heap.size := fun x hx => by simpa using hW'.lt x (by simpa using hx)
  obtain ⟨b0, _, hb0, hB0⟩ := opens_param (j := 0) hsz opens_book rfl rfl h0
  obtain ⟨A0, k0, hq0, hx0⟩ := hb0
  have hq0' : c0.toList = [.slice A0 b0.length k0] := hq0
  obtain rfl : c0 = #[.slice A0 b0.length k0] := by rw [← Array.toArray_toList (xs := c0), hq0']
  have hr0 : RSl 5 96 RType (Old W) W [.slice A0 b0.length k0] b0 := ⟨A0, k0, rfl, hx0⟩
  have hv2 : ∃ v, (Value.agg c2).cells.toList.length = 5 ∧ RVal (Old W) W (Value.agg c2).cells.toList v ∧ (okV v ∧ depthV v ≤ Rows.uptoBulk d2 ∧ countV v ≤ Rows.uptoBulk d2) := by
    obtain ⟨fuel, hf⟩ := h2
    exact open_value _ fuel _ (d2, p2) (Nat.le_refl _) (fun n hn => by
      have := List.all_eq_true.1 hsz _ (DataW.weights_mem_each (j := 2) rfl rfl n hn)
      simpa using this) hf
  obtain ⟨v2, hl2, hr2, ho2, hd2, hn2⟩ := hv2
  replace hr2 : RVal (Old W) W c2.toList v2 := hr2
  have hbk2 : Rows.uptoBulk d2 ≤ 4611686018427387904 := by
    have h1 : Rows.uptoBulkAll [d0, d1, d2] ≤ 1048576 := by simpa [Rows.uptoSmall] using hbulk
    simp only [Rows.uptoBulkAll] at h1
    omega
  obtain ⟨cl2, rfl⟩ : ∃ l : List Value, c2 = l.toArray := ⟨c2.toList, by simp⟩
  refine (compatSelf_any (Old W) (Old W) _ b0 s1 cl2 v2 W hr0 (by simpa using hr2) hW0 hB0 ho2 (by omega) (by omega)).mono fun e W' ⟨he, hb⟩ => ?_
  subst he
  refine ⟨_, rfl, post_law (pa := p0 ++ (p1 ++ p2)) (pv := []) hW' hb [] ?_ ?_ ?_⟩
  · exact trodAll_mk1 (shut_bool Tryd.underlying4 true)
  · exact trodAll_mk3 (Below.trod Tryd.laidOut (by kernel_rfl) (of_decide_eq_true (by kernel_rfl)) h0 hb (fun x hx => hlt x (by simp [hx]))) (Below.trod Tryd.laidOut (by kernel_rfl) (of_decide_eq_true (by kernel_rfl)) h1 hb (fun x hx => hlt x (by simp [hx]))) (Below.trod Tryd.laidOut (by kernel_rfl) (of_decide_eq_true (by kernel_rfl)) h2 hb (fun x hx => hlt x (by simp [hx])))
  · rfl

set_option maxRecDepth 100000 in
set_option maxHeartbeats 4000000 in
theorem compatSelf_saidUpto : Rows.CompatSelfUptoSaid :=
  OpenClaim.holds_of_cond 3 Tryd.f3 rfl rfl rfl rfl rfl rfl rfl ⟨rfl, rfl, rfl, rfl, rfl⟩ rfl rfl rfl rfl rfl (by as_aux_lemma => kernel_rfl) Tryd.func3 (by as_aux_lemma => kernel_rfl)
    (of_decide_eq_true (by as_aux_lemma => kernel_rfl)) (by unfold Func.isWrapper; rw [if_neg (of_decide_eq_false (by as_aux_lemma => kernel_rfl))]; exact ⟨rfl, rfl⟩)
    (fun os started H enc _ F => by rw [OpenClaim.pre_eq_preRow]; exact compatSelf_lifted os started H enc F)

set_option maxRecDepth 100000 in
set_option maxHeartbeats 4000000 in
theorem compatSelfUptoCard_holds : Rows.CompatSelfUptoCardSaid :=
  Claim7.holds_tied_plain_at .later [] _ _ _ _ compatSelf_saidUpto (fun _ h => by cases h) (by as_aux_lemma => kernel_rfl) (fun _ h => by cases h) compatSelfUpto_row_tie rfl ⟨rfl, rfl⟩ (by as_aux_lemma => kernel_rfl) rfl
    (fun f fn hf hfn => by
      obtain rfl : f = 3 := Option.some.inj ((show Tryd.prog.funcNamed "patternbook/patternbookkeep.CompatSelf" = some 3 by as_aux_lemma => kernel_rfl).symm.trans hf) |>.symm
      obtain rfl : fn = Tryd.f3 := (Option.some.inj (Tryd.func3.symm.trans hfn)).symm
      exact ⟨(by as_aux_lemma => kernel_rfl), fun j t ht => by
        rw [Tryd.params3] at ht
        have h3 : t = 24 ∨ t = 9 ∨ t = 28 := by
          rcases j with _ | j
          · exact (.inl (by simpa using ht.symm))
          · skip
            rcases j with _ | j
            · exact (.inr (.inl (by simpa using ht.symm)))
            · skip
              rcases j with _ | j
              · exact (.inr (.inr (by simpa using ht.symm)))
              · skip
                simp at ht
        rcases h3 with rfl | rfl | rfl
        · exact (show Tryd.prog.wantsStandIn 24 = false by as_aux_lemma => kernel_rfl)
        · exact (show Tryd.prog.wantsStandIn 9 = false by as_aux_lemma => kernel_rfl)
        · exact (show Tryd.prog.wantsStandIn 28 = false by as_aux_lemma => kernel_rfl)⟩)
    (by as_aux_lemma => kernel_rfl)
end Go.Proofs.YtfidfakcbjoilaaDoor
