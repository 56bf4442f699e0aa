/- The statement ValueDecodes in its second form (values up to the given bulk), proved, and its card: for every input the law returns true, and its arguments read as before. Of the listed variables book.words alone is read, as the nine words; internal/bytealg.MaxLen holds some number. -/
import Derived.Test.YtockolmdffehnaaDoorRows
import Derived.Test.YtockolmdffehnaaDoorCards
import Derived.Test.YtockolmdffehnaaDoorTie
import Derived.Test.YtockolmdffehnaaDoorLawDecodes
import Derived.Test.YtockolmdffehnaaDoorOpens
import Derived.Lay
import Derived.LaidMore
import Derived.SevenTiedAt
import Derived.Deep.DeepHandedRow
import Derived.Stop.Joined
namespace Go.Proofs.YtockolmdffehnaaDoor
open Go.RowKit Go.ChangeShapes Go.WideShapes Go.ChangeAt
open Go.ChangeMaps (open_string)

set_option maxRecDepth 100000 in
set_option maxHeartbeats 4000000 in
theorem valueDecodes_reads (os : Os) {H : Type} (enc : TypeId × Value → H) : ∃ places, DataW.whole enc Tryd.prog ((World.laidAll Tryd.prog os Rows.valueDecodesUptoRow.laid).forCall (fun _ _ => 0) ⟨#[], #[.agg #[.slice none 0 0], .string .empty, .string .empty], []⟩).memory Tryd.f4.params.toList Rows.valueDecodesSpec.vars false (#[.agg #[.slice none 0 0], .string .empty, .string .empty] : Array Value).toList 8 =
    some ([.agg [.nil], .lit (.string []), .lit (.string [])], [], places) :=
  ⟨[], by kernel_rfl⟩

set_option maxRecDepth 100000 in
set_option maxHeartbeats 4000000 in
theorem valueDecodes_lifted (os : Os) (started : os.Started) (H : Type) (enc : TypeId × Value → H) (F : Stop.Interp) :
    ReturnsInHanded {} Tryd.checked os 4 .any ((Rows.OpenSpec.upto Rows.valueDecodesSpec).preRow enc Tryd.prog Tryd.f4 Rows.valueDecodesUptoRow.domain false Rows.valueDecodesUptoRow.laid) (((Rows.OpenSpec.upto Rows.valueDecodesSpec).at F).post enc Tryd.prog Tryd.f4 false true false false) := by
  obtain ⟨places, hx⟩ := valueDecodes_reads os enc
  have hsh : ((World.laidAll Tryd.prog os Rows.valueDecodesUptoRow.laid).forCall (fun _ _ => 0) ⟨#[], #[.agg #[.slice none 0 0], .string .empty, .string .empty], []⟩).Shaped Tryd.checked.prog := World.shaped_of_ZipB (by kernel_rfl) (by kernel_rfl)
  have hok : Input.okWideB Tryd.checked.prog ((World.laidAll Tryd.prog os Rows.valueDecodesUptoRow.laid).forCall (fun _ _ => 0) ⟨#[], #[.agg #[.slice none 0 0], .string .empty, .string .empty], []⟩) 4 ⟨#[], #[.agg #[.slice none 0 0], .string .empty, .string .empty], []⟩ = true := by kernel_rfl
  refine returnsInHanded_of_row (C := Tryd.checked) (s := Rows.OpenSpec.upto Rows.valueDecodesSpec) Tryd.own started (by kernel_rfl) Tryd.func4
    ⟨World.laidAll Tryd.prog os Rows.valueDecodesUptoRow.laid, fun _ _ => 0, ⟨#[], #[.agg #[.slice none 0 0], .string .empty, .string .empty], []⟩, World.laidAll_os _ _ _, hsh, (Input.okWide_of_okWideB (base := 0) hok).1, (Input.okWide_of_okWideB hok).2,
      OpenSpec.preRow_of_cond 8 hx (by kernel_rfl) (fun k hk => by cases hk; kernel_rfl) (by kernel_rfl) (by rw [MakeChecks.laidMetH_plain _ _ _ (by kernel_rfl)]; exact laidMet_laidAll _ (by kernel_rfl) (by kernel_rfl)), by
      simp [Assume.holds]⟩ ?_
  clear hsh hok hx
  intro W base args ds gs before hval0 hW _ hcond hsz0 hL hsh _
  have hW0 : Words W := by
    rw [MakeChecks.laidMetH_plain _ _ _ (by kernel_rfl)] at hL
    exact words_of_laid3 hL
  have hM0 : MaxL W := maxL_of_shaped hsh
  have hsz : (DataW.weightsEach Tryd.prog (Tryd.f4.params.toList ++ (Rows.OpenSpec.upto Rows.valueDecodesSpec).bare.plain.varTypes Tryd.prog) (ds ++ gs)).all (· ≤ reachBytes) = true := hsz0
  have hbulk : Rows.uptoSmall H (ds ++ gs) = true := hcond _ rfl
  clear hsz0 hL hcond hsh
  have hval : ∀ (j : Nat) t v, Tryd.f4.params[j]? = some t → args[j]? = some v → Value.okWide Tryd.prog W .any base t v := hval0
  have hW' := hW
  obtain ⟨p, q, hA0, hV, rfl, _, _⟩ := hW
  have hA : DataW.TrodAll enc Tryd.prog W 0 (fun _ => true) true Tryd.f4.params.toList args.toList ds p := hA0
  rw [Tryd.params4] at hA hval hsz
  obtain ⟨v0, v1, v2, d0, d1, d2, p0, p1, p2, rfl, rfl, rfl, h0, h1, h2⟩ := trodAll_three hA
  obtain ⟨rfl, rfl⟩ := trodVars_none hV
  obtain ⟨c0, rfl, hc0⟩ := okWide_struct Tryd.underlying24 (hval 0 24 v0 rfl rfl)
  obtain ⟨s1, hvs1, hds1, hps1, hs1⟩ := open_string Tryd.underlying9 (hval 1 9 v1 rfl rfl) h1
  subst hvs1
  obtain ⟨s2, hvs2, hds2, hps2, hs2⟩ := open_string Tryd.underlying9 (hval 2 9 v2 rfl rfl) h2
  subst hvs2
  clear hA0 hval0
  simp only [List.append_nil] at hW' hbulk
  have hlt : ∀ x ∈ p0 ++ p1 ++ p2, x.block < W.heap.size := fun x hx => by simpa using hW'.lt x (by simpa using hx)
  have hbl : Rows.uptoBulk d0 ≤ 1048576 ∧ True := by
    have h1 : Rows.uptoBulkAll [d0, d1, d2] ≤ 1048576 := by simpa [Rows.uptoSmall] using hbulk
    simp only [Rows.uptoBulkAll] at h1
    exact ⟨by omega, trivial⟩
  have hv0 : ∃ b, (Value.agg c0).cells.toList.length = 1 ∧ RSl 5 96 RType (Old W) W (Value.agg c0).cells.toList b ∧ (BookOk b ∧ ∀ t ∈ b, t.items.length ≤ Rows.uptoBulk d0) := by
    obtain ⟨fuel, hf⟩ := h0
    exact open_book_bulk fuel _ (d0, p0) (fun n hn => by
      have := List.all_eq_true.1 hsz _ (DataW.weights_mem_each (j := 0) rfl rfl n hn)
      simpa using this) hf
  obtain ⟨b0, _, hb0, hB0, hsm0⟩ := hv0
  obtain ⟨A0, k0, hq0, hx0⟩ := hb0
  have hq0' : c0.toList = [.slice A0 b0.length k0] := hq0
  obtain rfl : c0 = #[.slice A0 b0.length k0] := by rw [← Array.toArray_toList (xs := c0), hq0']
  have hr0 : RSl 5 96 RType (Old W) W [.slice A0 b0.length k0] b0 := ⟨A0, k0, rfl, hx0⟩
  have hS0 : BookSmall b0 := fun t ht => Nat.le_trans (hsm0 t ht) hbl.1
  refine (valueDecodes_any (Old W) _ b0 s1 s2 W hr0 hW0 hM0 hB0 hS0 hs2).mono fun e W' ⟨he, hb⟩ => ?_
  subst he
  refine ⟨_, rfl, post_law (pa := p0 ++ (p1 ++ p2)) (pv := []) hW' hb [] ?_ ?_ ?_⟩
  · exact trodAll_mk1 (shut_bool Tryd.underlying4 true)
  · exact trodAll_mk3 (Below.trod Tryd.laidOut (by kernel_rfl) (of_decide_eq_true (by kernel_rfl)) h0 hb (fun x hx => hlt x (by simp [hx]))) (Below.trod Tryd.laidOut (by kernel_rfl) (of_decide_eq_true (by kernel_rfl)) h1 hb (fun x hx => hlt x (by simp [hx]))) (Below.trod Tryd.laidOut (by kernel_rfl) (of_decide_eq_true (by kernel_rfl)) h2 hb (fun x hx => hlt x (by simp [hx])))
  · rfl

set_option maxRecDepth 100000 in
set_option maxHeartbeats 4000000 in
theorem valueDecodes_saidUpto : Rows.ValueDecodesUptoSaid :=
  OpenClaim.holds_of_cond 4 Tryd.f4 rfl rfl rfl rfl rfl rfl rfl ⟨rfl, rfl, rfl, rfl, rfl⟩ rfl rfl rfl rfl rfl (by as_aux_lemma => kernel_rfl) Tryd.func4 (by as_aux_lemma => kernel_rfl)
    (of_decide_eq_true (by as_aux_lemma => kernel_rfl)) (by unfold Func.isWrapper; rw [if_neg (of_decide_eq_false (by as_aux_lemma => kernel_rfl))]; exact ⟨rfl, rfl⟩)
    (fun os started H enc _ F => by rw [OpenClaim.pre_eq_preRow]; exact valueDecodes_lifted os started H enc F)

set_option maxRecDepth 100000 in
set_option maxHeartbeats 4000000 in
theorem valueDecodesUptoCard_holds : Rows.ValueDecodesUptoCardSaid :=
  Claim7.holds_tied_plain_at .later [] _ _ _ _ valueDecodes_saidUpto (fun _ h => by cases h) (by as_aux_lemma => kernel_rfl) (fun _ h => by cases h) valueDecodesUpto_row_tie rfl ⟨rfl, rfl⟩ (by as_aux_lemma => kernel_rfl) rfl
    (fun f fn hf hfn => by
      obtain rfl : f = 4 := Option.some.inj ((show Tryd.prog.funcNamed "patternbook/patternbooklaw.ValueDecodes" = some 4 by as_aux_lemma => kernel_rfl).symm.trans hf) |>.symm
      obtain rfl : fn = Tryd.f4 := (Option.some.inj (Tryd.func4.symm.trans hfn)).symm
      exact ⟨(by as_aux_lemma => kernel_rfl), fun j t ht => by
        rw [Tryd.params4] at ht
        have h3 : t = 24 ∨ t = 9 := by
          rcases j with _ | j
          · exact .inl (by simpa using ht.symm)
          · skip
            rcases j with _ | j
            · exact .inr (by simpa using ht.symm)
            · skip
              rcases j with _ | j
              · exact .inr (by simpa using ht.symm)
              · simp at ht
        rcases h3 with rfl | rfl
        · exact (show Tryd.prog.wantsStandIn 24 = false by as_aux_lemma => kernel_rfl)
        · exact (show Tryd.prog.wantsStandIn 9 = false by as_aux_lemma => kernel_rfl)⟩)
    (by as_aux_lemma => kernel_rfl)
end Go.Proofs.YtockolmdffehnaaDoor
