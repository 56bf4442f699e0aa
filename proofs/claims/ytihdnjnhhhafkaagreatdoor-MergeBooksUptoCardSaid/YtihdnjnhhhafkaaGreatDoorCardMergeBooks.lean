/- The statement MergeBooks in its second form (input up to the given bulk), proved, and its card: for every input the law returns true, and its arguments read as before. What the call reads of the listed variables is had from the row. -/
import Derived.Test.YtihdnjnhhhafkaaGreatDoorRows
import Derived.Test.YtihdnjnhhhafkaaGreatDoorCards
import Derived.Test.YtihdnjnhhhafkaaGreatDoorTie
import Derived.Test.YtihdnjnhhhafkaaGreatDoorLawMergeBooks
import Derived.Test.YtihdnjnhhhafkaaGreatDoorOpens
import Derived.Lay
import Derived.LaidMore
import Derived.SevenTiedAt
import Derived.Deep.DeepHandedRow
import Derived.Stop.Joined
set_option linter.all false
set_option maxRecDepth 100000
set_option maxHeartbeats 8000000
namespace Go.Proofs.YtihdnjnhhhafkaaGreatDoor
open Go.RowKit Go.ChangeShapes Go.WideShapes Go.ChangeAt
theorem mergeBooks_reads (os : Os) {H : Type} (enc : TypeId × Value → H) : ∃ places, DataW.whole enc Tryz.prog ((World.laidAll Tryz.prog os Rows.mergeBooksUptoRow.laid).forCall (fun _ _ => 0) ⟨#[], #[.agg #[.slice none 0 0], .agg #[.slice none 0 0], .agg #[.slice none 0 0]], []⟩).memory Tryz.f3.params.toList Rows.mergeBooksSpec.vars false (#[.agg #[.slice none 0 0], .agg #[.slice none 0 0], .agg #[.slice none 0 0]] : Array Value).toList 8 =
  some ([.agg [.nil], .agg [.nil], .agg [.nil]], [], places) :=
 ⟨[], by kernel_rfl⟩
theorem mergeBooks_lifted (os : Os) (started : os.Started) (H : Type) (enc : TypeId × Value → H) (F : Stop.Interp) :
  ReturnsInHanded {} Tryz.checked os 3 .any ((Rows.OpenSpec.upto Rows.mergeBooksSpec).preRow enc Tryz.prog Tryz.f3 Rows.mergeBooksUptoRow.domain false Rows.mergeBooksUptoRow.laid) (((Rows.OpenSpec.upto Rows.mergeBooksSpec).at F).post enc Tryz.prog Tryz.f3 false true false false) := by
 obtain ⟨places, hx⟩ := mergeBooks_reads os enc
 have hsh : ((World.laidAll Tryz.prog os Rows.mergeBooksUptoRow.laid).forCall (fun _ _ => 0) ⟨#[], #[.agg #[.slice none 0 0], .agg #[.slice none 0 0], .agg #[.slice none 0 0]], []⟩).Shaped Tryz.checked.prog := World.shaped_of_ZipB (by kernel_rfl) (by kernel_rfl)
 have hok : Input.okWideB Tryz.checked.prog ((World.laidAll Tryz.prog os Rows.mergeBooksUptoRow.laid).forCall (fun _ _ => 0) ⟨#[], #[.agg #[.slice none 0 0], .agg #[.slice none 0 0], .agg #[.slice none 0 0]], []⟩) 3 ⟨#[], #[.agg #[.slice none 0 0], .agg #[.slice none 0 0], .agg #[.slice none 0 0]], []⟩ = true := by kernel_rfl
 refine returnsInHanded_of_row (C := Tryz.checked) (s := Rows.OpenSpec.upto Rows.mergeBooksSpec) Tryz.own started (by kernel_rfl) Tryz.func3
  ⟨World.laidAll Tryz.prog os Rows.mergeBooksUptoRow.laid, fun _ _ => 0, ⟨#[], #[.agg #[.slice none 0 0], .agg #[.slice none 0 0], .agg #[.slice none 0 0]], []⟩, World.laidAll_os _ _ _, hsh, (Input.okWide_of_okWideB (base := 0) hok).1, (Input.okWide_of_okWideB hok).2,
   OpenSpec.preRow_of_cond 8 hx (by kernel_rfl) (fun k hk => by cases hk; kernel_rfl) (by kernel_rfl) (by rw [MakeChecks.laidMetH_plain _ _ _ (by kernel_rfl)]; exact laidMet_laidAll _ (by kernel_rfl) (by kernel_rfl)), by
   simp [Assume.holds]⟩ ?_
 clear hsh hok hx
 intro W base args ds gs before hval0 hW _ hcond hsz0 hL hsh _
 rw [MakeChecks.laidMetH_plain _ _ _ (by kernel_rfl)] at hL
 have hW0 : Words W := words_of_laid3 hL
 have hM0 : MaxL W := maxL_of_shaped hsh
 have hsz : (DataW.weightsEach Tryz.prog (Tryz.f3.params.toList ++ (Rows.OpenSpec.upto Rows.mergeBooksSpec).bare.plain.varTypes Tryz.prog) (ds ++ gs)).all (· ≤ reachBytes) = true := hsz0
 have hbulk : Rows.uptoSmall H (ds ++ gs) = true := hcond _ rfl
 clear hsz0 hL hcond hsh
 have hval : ∀ (j : Nat) t v, Tryz.f3.params[j]? = some t → args[j]? = some v → Value.okWide Tryz.prog W .any base t v := hval0
 have hW' := hW
 obtain ⟨p, q, hA0, hV, rfl, _, _⟩ := hW
 have hA : DataW.TrodAll enc Tryz.prog W 0 (fun _ => true) true Tryz.f3.params.toList args.toList ds p := hA0
 rw [Tryz.params3] at hA hval hsz
 obtain ⟨v0, v1, v2, d0, d1, d2, p0, p1, p2, rfl, rfl, rfl, h0, h1, h2⟩ := trodAll_three hA
 obtain ⟨rfl, rfl⟩ := trodVars_none hV
 obtain ⟨c0, rfl, hc0⟩ := okWide_struct Tryz.underlying24 (hval 0 24 v0 rfl rfl)
 obtain ⟨c1, rfl, hc1⟩ := okWide_struct Tryz.underlying24 (hval 1 24 v1 rfl rfl)
 obtain ⟨c2, rfl, hc2⟩ := okWide_struct Tryz.underlying24 (hval 2 24 v2 rfl rfl)
 clear hA0 hval0
 simp only [List.append_nil] at hW' hbulk
 have hlt : ∀ x ∈ p0 ++ p1 ++ p2, x.block < W.heap.size := fun x hx => by simpa using hW'.lt x (by simpa using hx)
 have hbl0 : Rows.uptoBulk d0 ≤ 1048576 := by
  have h1 : Rows.uptoBulkAll [d0, d1, d2] ≤ 1048576 := by simpa [Rows.uptoSmall] using hbulk
  simp only [Rows.uptoBulkAll] at h1
  omega
 have hv0 : ∃ b, (Value.agg c0).cells.toList.length = 1 ∧ RSl 5 96 RType (Old W) W (Value.agg c0).cells.toList b ∧ (BookOk b ∧ ∀ t ∈ b, t.items.length ≤ Rows.uptoBulk d0) := by
  obtain ⟨fuel, hf⟩ := h0
  exact open_book_bulk fuel _ (d0, p0) (fun n hn => by
   have := List.all_eq_true.1 hsz _ (DataW.weights_mem_each (j := 0) rfl rfl n hn)
   simpa using this) hf
 obtain ⟨b0, _, hb0, hB0, hsm0⟩ := hv0
 obtain ⟨A0, k0, hq0, hx0⟩ := hb0
 have hq0' : c0.toList = [.slice A0 b0.length k0] := hq0
 obtain rfl : c0 = #[.slice A0 b0.length k0] := by rw [← Array.toArray_toList (xs := c0), hq0']
 have hr0 : RSl 5 96 RType (Old W) W [.slice A0 b0.length k0] b0 := ⟨A0, k0, rfl, hx0⟩
 have hS0 : BookSmall b0 := fun t ht => Nat.le_trans (hsm0 t ht) hbl0
 have hbl1 : Rows.uptoBulk d1 ≤ 1048576 := by
  have h1 : Rows.uptoBulkAll [d0, d1, d2] ≤ 1048576 := by simpa [Rows.uptoSmall] using hbulk
  simp only [Rows.uptoBulkAll] at h1
  omega
 have hv1 : ∃ b, (Value.agg c1).cells.toList.length = 1 ∧ RSl 5 96 RType (Old W) W (Value.agg c1).cells.toList b ∧ (BookOk b ∧ ∀ t ∈ b, t.items.length ≤ Rows.uptoBulk d1) := by
  obtain ⟨fuel, hf⟩ := h1
  exact open_book_bulk fuel _ (d1, p1) (fun n hn => by
   have := List.all_eq_true.1 hsz _ (DataW.weights_mem_each (j := 1) rfl rfl n hn)
   simpa using this) hf
 obtain ⟨b1, _, hb1, hB1, hsm1⟩ := hv1
 obtain ⟨A1, k1, hq1, hx1⟩ := hb1
 have hq1' : c1.toList = [.slice A1 b1.length k1] := hq1
 obtain rfl : c1 = #[.slice A1 b1.length k1] := by rw [← Array.toArray_toList (xs := c1), hq1']
 have hr1 : RSl 5 96 RType (Old W) W [.slice A1 b1.length k1] b1 := ⟨A1, k1, rfl, hx1⟩
 have hS1 : BookSmall b1 := fun t ht => Nat.le_trans (hsm1 t ht) hbl1
 have hbl2 : Rows.uptoBulk d2 ≤ 1048576 := by
  have h1 : Rows.uptoBulkAll [d0, d1, d2] ≤ 1048576 := by simpa [Rows.uptoSmall] using hbulk
  simp only [Rows.uptoBulkAll] at h1
  omega
 have hv2 : ∃ b, (Value.agg c2).cells.toList.length = 1 ∧ RSl 5 96 RType (Old W) W (Value.agg c2).cells.toList b ∧ (BookOk b ∧ ∀ t ∈ b, t.items.length ≤ Rows.uptoBulk d2) := by
  obtain ⟨fuel, hf⟩ := h2
  exact open_book_bulk fuel _ (d2, p2) (fun n hn => by
   have := List.all_eq_true.1 hsz _ (DataW.weights_mem_each (j := 2) rfl rfl n hn)
   simpa using this) hf
 obtain ⟨b2, _, hb2, hB2, hsm2⟩ := hv2
 obtain ⟨A2, k2, hq2, hx2⟩ := hb2
 have hq2' : c2.toList = [.slice A2 b2.length k2] := hq2
 obtain rfl : c2 = #[.slice A2 b2.length k2] := by rw [← Array.toArray_toList (xs := c2), hq2']
 have hr2 : RSl 5 96 RType (Old W) W [.slice A2 b2.length k2] b2 := ⟨A2, k2, rfl, hx2⟩
 have hS2 : BookSmall b2 := fun t ht => Nat.le_trans (hsm2 t ht) hbl2
 refine (lawMergeBooks_any (Old W) _ _ _ b0 b1 b2 W hr0 hr1 hr2 hW0 hM0 hB0 hB1 hB2 hS0 hS1 hS2).mono fun e W' ⟨he, hb⟩ => ?_
 subst he
 refine ⟨_, rfl, post_law (pa := p0 ++ (p1 ++ p2)) (pv := []) hW' hb [] ?_ ?_ ?_⟩
 ·exact trodAll_mk1 (shut_bool Tryz.underlying4 true)
 ·exact trodAll_mk3 (Below.trod Tryz.laidOut (by kernel_rfl) (of_decide_eq_true (by kernel_rfl)) h0 hb (fun x hx => hlt x (by simp [hx]))) (Below.trod Tryz.laidOut (by kernel_rfl) (of_decide_eq_true (by kernel_rfl)) h1 hb (fun x hx => hlt x (by simp [hx]))) (Below.trod Tryz.laidOut (by kernel_rfl) (of_decide_eq_true (by kernel_rfl)) h2 hb (fun x hx => hlt x (by simp [hx])))
 ·rfl
theorem mergeBooks_saidUpto : Rows.MergeBooksUptoSaid :=
 OpenClaim.holds_of_cond 3 Tryz.f3 rfl rfl rfl rfl rfl rfl rfl ⟨rfl, rfl, rfl, rfl, rfl⟩ rfl rfl rfl rfl rfl (by as_aux_lemma => kernel_rfl) Tryz.func3 (by as_aux_lemma => kernel_rfl)
  (of_decide_eq_true (by as_aux_lemma => kernel_rfl)) (by unfold Func.isWrapper; rw [if_neg (of_decide_eq_false (by as_aux_lemma => kernel_rfl))]; exact ⟨rfl, rfl⟩)
  (fun os started H enc _ F => by rw [OpenClaim.pre_eq_preRow]; exact mergeBooks_lifted os started H enc F)
theorem mergeBooksUptoCard_holds : Rows.MergeBooksUptoCardSaid :=
 Claim7.holds_tied_plain_at .later [] _ _ _ _ mergeBooks_saidUpto (fun _ h => by cases h) (by as_aux_lemma => kernel_rfl) (fun _ h => by cases h) mergeBooksUpto_row_tie rfl ⟨rfl, rfl⟩ (by as_aux_lemma => kernel_rfl) rfl
  (fun f fn hf hfn => by
   obtain rfl : f = 3 := Option.some.inj ((show Tryz.prog.funcNamed "patternbook/patternbooklaw.MergeBooks" = some 3 by as_aux_lemma => kernel_rfl).symm.trans hf) |>.symm
   obtain rfl : fn = Tryz.f3 := (Option.some.inj (Tryz.func3.symm.trans hfn)).symm
   exact ⟨(by as_aux_lemma => kernel_rfl), fun j t ht => by
    rw [Tryz.params3] at ht
    have h3 : t = 24 := by
     rcases j with _ | j
     ·exact (by simpa using ht.symm)
     ·skip
      rcases j with _ | j
      ·exact (by simpa using ht.symm)
      ·skip
       rcases j with _ | j
       ·exact (by simpa using ht.symm)
       ·skip
        simp at ht
    subst h3
    exact (show Tryz.prog.wantsStandIn 24 = false by as_aux_lemma => kernel_rfl)⟩)
  (by as_aux_lemma => kernel_rfl)
end Go.Proofs.YtihdnjnhhhafkaaGreatDoor
