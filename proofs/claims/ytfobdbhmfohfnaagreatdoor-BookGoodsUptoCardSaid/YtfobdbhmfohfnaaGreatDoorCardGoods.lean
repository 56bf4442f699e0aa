/- The statement BookGoods in its second form (input up to the given bulk), proved, and its card: for every input the law returns true, and its arguments read as before. What the call reads of the listed variables is had from the row. -/
import Derived.Test.YtfobdbhmfohfnaaGreatDoorRows
import Derived.Test.YtfobdbhmfohfnaaGreatDoorCards
import Derived.Test.YtfobdbhmfohfnaaGreatDoorTie
import Derived.Test.YtfobdbhmfohfnaaGreatDoorLawGoods
import Derived.Test.YtfobdbhmfohfnaaGreatDoorOpens
import Derived.Test.YtfobdbhmfohfnaaGreatDoorOpensB
import Derived.Lay
import Derived.LaidMore
import Derived.SevenTiedAt
import Derived.Deep.DeepHandedRow
import Derived.Stop.Joined
set_option linter.all false
set_option maxRecDepth 100000
set_option maxHeartbeats 8000000
namespace Go.Proofs.YtfobdbhmfohfnaaGreatDoor
open Go.RowKit Go.ChangeShapes Go.WideShapes Go.ChangeAt
open Go.ChangeMaps (open_string)
theorem bookGoods_reads (os : Os) {H : Type} (enc : TypeId × Value → H) : ∃ places, DataW.whole enc Tryz.prog ((World.laidAll Tryz.prog os Rows.bookGoodsUptoRow.laid).forCall (fun _ _ => 0) ⟨#[], #[.agg #[.slice none 0 0], .string .empty, .int .i64 0, .int .i64 0], []⟩).memory Tryz.f6.params.toList Rows.bookGoodsSpec.vars false (#[.agg #[.slice none 0 0], .string .empty, .int .i64 0, .int .i64 0] : Array Value).toList 8 =
  some ([.agg [.nil], .lit (.string []), .lit (.int .i64 0), .lit (.int .i64 0)], [], places) :=
 ⟨[], by kernel_rfl⟩
theorem bookGoods_lifted (os : Os) (started : os.Started) (H : Type) (enc : TypeId × Value → H) (F : Stop.Interp) :
  ReturnsInHanded {} Tryz.checked os 6 .any ((Rows.OpenSpec.upto Rows.bookGoodsSpec).preRow enc Tryz.prog Tryz.f6 Rows.bookGoodsUptoRow.domain false Rows.bookGoodsUptoRow.laid) (((Rows.OpenSpec.upto Rows.bookGoodsSpec).at F).post enc Tryz.prog Tryz.f6 false true false false) := by
 obtain ⟨places, hx⟩ := bookGoods_reads os enc
 have hsh : ((World.laidAll Tryz.prog os Rows.bookGoodsUptoRow.laid).forCall (fun _ _ => 0) ⟨#[], #[.agg #[.slice none 0 0], .string .empty, .int .i64 0, .int .i64 0], []⟩).Shaped Tryz.checked.prog := World.shaped_of_ZipB (by kernel_rfl) (by kernel_rfl)
 have hok : Input.okWideB Tryz.checked.prog ((World.laidAll Tryz.prog os Rows.bookGoodsUptoRow.laid).forCall (fun _ _ => 0) ⟨#[], #[.agg #[.slice none 0 0], .string .empty, .int .i64 0, .int .i64 0], []⟩) 6 ⟨#[], #[.agg #[.slice none 0 0], .string .empty, .int .i64 0, .int .i64 0], []⟩ = true := by kernel_rfl
 refine returnsInHanded_of_row (C := Tryz.checked) (s := Rows.OpenSpec.upto Rows.bookGoodsSpec) Tryz.own started (by kernel_rfl) Tryz.func6
  ⟨World.laidAll Tryz.prog os Rows.bookGoodsUptoRow.laid, fun _ _ => 0, ⟨#[], #[.agg #[.slice none 0 0], .string .empty, .int .i64 0, .int .i64 0], []⟩, World.laidAll_os _ _ _, hsh, (Input.okWide_of_okWideB (base := 0) hok).1, (Input.okWide_of_okWideB hok).2,
   OpenSpec.preRow_of_cond 8 hx (by kernel_rfl) (fun k hk => by cases hk; kernel_rfl) (by kernel_rfl) (by rw [MakeChecks.laidMetH_plain _ _ _ (by kernel_rfl)]; exact laidMet_laidAll _ (by kernel_rfl) (by kernel_rfl)), by
   simp [Assume.holds]⟩ ?_
 clear hsh hok hx
 intro W base args ds gs before hval0 hW _ hcond hsz0 hL hsh _
 rw [MakeChecks.laidMetH_plain _ _ _ (by kernel_rfl)] at hL
 have hW0 : Words W := words_in hL (List.mem_of_getElem? (i := 6) rfl)
 have hN0 : Nums W := nums_in hL (List.mem_of_getElem? (i := 2) rfl) (List.mem_of_getElem? (i := 5) rfl) (List.mem_of_getElem? (i := 4) rfl)
 have hL0 : Lists W := lists_in hL (List.mem_of_getElem? (i := 8) rfl) (List.mem_of_getElem? (i := 7) rfl)
 have hM0 : MaxL W := maxL_of_shaped hsh
 have hsz : (DataW.weightsEach Tryz.prog (Tryz.f6.params.toList ++ (Rows.OpenSpec.upto Rows.bookGoodsSpec).bare.plain.varTypes Tryz.prog) (ds ++ gs)).all (· ≤ reachBytes) = true := hsz0
 have hbulk : Rows.uptoSmall H (ds ++ gs) = true := hcond _ rfl
 clear hsz0 hL hcond hsh
 have hval : ∀ (j : Nat) t v, Tryz.f6.params[j]? = some t → args[j]? = some v → Value.okWide Tryz.prog W .any base t v := hval0
 have hW' := hW
 obtain ⟨p, q, hA0, hV, rfl, _, _⟩ := hW
 have hA : DataW.TrodAll enc Tryz.prog W 0 (fun _ => true) true Tryz.f6.params.toList args.toList ds p := hA0
 rw [Tryz.params6] at hA hval hsz
 obtain ⟨v0, v1, v2, v3, d0, d1, d2, d3, p0, p1, p2, p3, rfl, rfl, rfl, h0, h1, h2, h3⟩ := trodAll_four hA
 obtain ⟨rfl, rfl⟩ := trodVars_none hV
 obtain ⟨c0, rfl, hc0⟩ := okWide_struct Tryz.underlying24 (hval 0 24 v0 rfl rfl)
 obtain ⟨s1, hvs1, hds1, hps1, hs1⟩ := open_string Tryz.underlying9 (hval 1 9 v1 rfl rfl) h1
 subst hvs1
 obtain ⟨i2, hvs2, hds2, hps2, hi2⟩ := open_int Tryz.underlying3 (hval 2 3 v2 rfl rfl) h2
 subst hvs2
 obtain ⟨i3, hvs3, hds3, hps3, hi3⟩ := open_int Tryz.underlying3 (hval 3 3 v3 rfl rfl) h3
 subst hvs3
 clear hA0 hval0
 simp only [List.append_nil] at hW' hbulk
 have hlt : ∀ x ∈ p0 ++ p1 ++ p2 ++ p3, x.block < W.heap.size := fun x hx => by simpa using hW'.lt x (by simpa using hx)
 have hbl0 : Rows.uptoBulk d0 ≤ 1048576 := by
  have h1 : Rows.uptoBulkAll [d0, d1, d2, d3] ≤ 1048576 := by simpa [Rows.uptoSmall] using hbulk
  simp only [Rows.uptoBulkAll] at h1
  omega
 have hv0 : ∃ b, (Value.agg c0).cells.toList.length = 1 ∧ RSl 5 96 RType (Old W) W (Value.agg c0).cells.toList b ∧ (BookOk b ∧ ∀ t ∈ b, t.items.length ≤ Rows.uptoBulk d0) := by
  obtain ⟨fuel, hf⟩ := h0
  exact open_book_bulk fuel _ (d0, p0) (fun n hn => by
   have := List.all_eq_true.1 hsz _ (DataW.weights_mem_each (j := 0) rfl rfl n hn)
   simpa using this) hf
 obtain ⟨b0, _, hb0, hB0, hsm0⟩ := hv0
 obtain ⟨A0, k0, hq0, hx0⟩ := hb0
 have hq0' : c0.toList = [.slice A0 b0.length k0] := hq0
 obtain rfl : c0 = #[.slice A0 b0.length k0] := by rw [← Array.toArray_toList (xs := c0), hq0']
 have hr0 : RSl 5 96 RType (Old W) W [.slice A0 b0.length k0] b0 := ⟨A0, k0, rfl, hx0⟩
 have hS0 : BookSmall b0 := fun t ht => Nat.le_trans (hsm0 t ht) hbl0
 refine (bookGoods_any (Old W) _ b0 s1 i2 i3 W hr0 hW0 hN0 hL0 hM0 hB0 hS0 hs1).mono fun e W' ⟨he, hb⟩ => ?_
 subst he
 refine ⟨_, rfl, post_law (pa := p0 ++ (p1 ++ (p2 ++ p3))) (pv := []) hW' hb [] ?_ ?_ ?_⟩
 ·exact trodAll_mk1 (shut_bool Tryz.underlying4 true)
 ·exact trodAll_mk4 (Below.trod Tryz.laidOut (by kernel_rfl) (of_decide_eq_true (by kernel_rfl)) h0 hb (fun x hx => hlt x (by simp [hx]))) (Below.trod Tryz.laidOut (by kernel_rfl) (of_decide_eq_true (by kernel_rfl)) h1 hb (fun x hx => hlt x (by simp [hx]))) (Below.trod Tryz.laidOut (by kernel_rfl) (of_decide_eq_true (by kernel_rfl)) h2 hb (fun x hx => hlt x (by simp [hx]))) (Below.trod Tryz.laidOut (by kernel_rfl) (of_decide_eq_true (by kernel_rfl)) h3 hb (fun x hx => hlt x (by simp [hx])))
 ·rfl
theorem bookGoods_saidUpto : Rows.BookGoodsUptoSaid :=
 OpenClaim.holds_of_cond 6 Tryz.f6 rfl rfl rfl rfl rfl rfl rfl ⟨rfl, rfl, rfl, rfl, rfl⟩ rfl rfl rfl rfl rfl (by as_aux_lemma => kernel_rfl) Tryz.func6 (by as_aux_lemma => kernel_rfl)
  (of_decide_eq_true (by as_aux_lemma => kernel_rfl)) (by unfold Func.isWrapper; rw [if_neg (of_decide_eq_false (by as_aux_lemma => kernel_rfl))]; exact ⟨rfl, rfl⟩)
  (fun os started H enc _ F => by rw [OpenClaim.pre_eq_preRow]; exact bookGoods_lifted os started H enc F)
theorem bookGoodsUptoCard_holds : Rows.BookGoodsUptoCardSaid :=
 Claim7.holds_tied_plain_at .later [] _ _ _ _ bookGoods_saidUpto (fun _ h => by cases h) (by as_aux_lemma => kernel_rfl) (fun _ h => by cases h) bookGoodsUpto_row_tie rfl ⟨rfl, rfl⟩ (by as_aux_lemma => kernel_rfl) rfl
  (fun f fn hf hfn => by
   obtain rfl : f = 6 := Option.some.inj ((show Tryz.prog.funcNamed "patternbook/patternbooklaw.BookGoods" = some 6 by as_aux_lemma => kernel_rfl).symm.trans hf) |>.symm
   obtain rfl : fn = Tryz.f6 := (Option.some.inj (Tryz.func6.symm.trans hfn)).symm
   exact ⟨(by as_aux_lemma => kernel_rfl), fun j t ht => by
    rw [Tryz.params6] at ht
    have h3 : t = 24 ∨ t = 9 ∨ t = 3 := by
     rcases j with _ | j
     ·exact (.inl (by simpa using ht.symm))
     ·skip
      rcases j with _ | j
      ·exact (.inr (.inl (by simpa using ht.symm)))
      ·skip
       rcases j with _ | j
       ·exact (.inr (.inr (by simpa using ht.symm)))
       ·skip
        rcases j with _ | j
        ·exact (.inr (.inr (by simpa using ht.symm)))
        ·skip
         simp at ht
    rcases h3 with rfl | rfl | rfl
    ·exact (show Tryz.prog.wantsStandIn 24 = false by as_aux_lemma => kernel_rfl)
    ·exact (show Tryz.prog.wantsStandIn 9 = false by as_aux_lemma => kernel_rfl)
    ·exact (show Tryz.prog.wantsStandIn 3 = false by as_aux_lemma => kernel_rfl)⟩)
  (by as_aux_lemma => kernel_rfl)
end Go.Proofs.YtfobdbhmfohfnaaGreatDoor
