/- The statement TopMemory, proved, and its card: for every input the law returns true, and its arguments read as before. What the call reads of the listed variables is had from the row. -/
import Derived.Test.YtknnhpkjgnkcdaaGreatDoorCards
import Derived.Test.YtknnhpkjgnkcdaaGreatDoorTie
import Derived.Test.YtknnhpkjgnkcdaaGreatDoorTopMemory
import Derived.Test.YtknnhpkjgnkcdaaGreatDoorTops
import Derived.Lay
set_option linter.all false
set_option maxRecDepth 100000
set_option maxHeartbeats 8000000
namespace Go.Proofs.YtknnhpkjgnkcdaaGreatDoor
open Go.RowKit Go.ChangeShapes Go.WideShapes Go.ChangeAt
theorem topMemory_lifted (os:Os)(started:os.Started)(H:Type)(enc:TypeId × Value→H) :
  ReturnsInHanded {} Tryz.checked os 4 .any (fun w args=>(Rows.topMemorySpec.pre enc Tryz.prog Tryz.f4 Rows.topMemoryRow.domain false w args∧laidMetH Tryz.prog Rows.topMemoryRow.laid w)∧sizedMet enc Tryz.prog Tryz.f4 (OpenSpec.ofChange Rows.topMemorySpec) false w args)
   (Rows.topMemorySpec.post enc Tryz.prog Tryz.f4 false true false false):=by
 refine returnsInHanded_of_change_and (C:=Tryz.checked) (X:=fun w _=>laidMetH Tryz.prog Rows.topMemoryRow.laid w) (fun _ _ _ hh h=>h.of_heap hh) Tryz.own started (by kernel_rfl) Tryz.func4
  (ChangeSpec.witness_shaped (enc:=enc) (C:=Tryz.checked) (os:=os) (X:=fun w _=>laidMetH Tryz.prog Rows.topMemoryRow.laid w) false (World.laidAll Tryz.prog os Rows.topMemoryRow.laid) #[Z0] 8 (World.laidAll_os _ _ _)
   (World.shaped_of_ZipB (by kernel_rfl) (by kernel_rfl)) (by kernel_rfl) (by kernel_rfl) (by kernel_rfl)
   (by rw[MakeChecks.laidMetH_plain _ _ _ (by kernel_rfl)];exact laidMet_laidAll _ (by kernel_rfl) (by kernel_rfl))) ?_
 intro W base args ds gs before hval0 hW _ hsz0 hL _;rw[MakeChecks.laidMetH_plain _ _ _ (by kernel_rfl)] at hL;have hW0:Words W:=ym hL (List.mem_of_getElem? (i:=5) rfl);have hN0:wO W:=Cf hL (List.mem_of_getElem? (i:=2) rfl) (List.mem_of_getElem? (i:=4) rfl) (List.mem_of_getElem? (i:=3) rfl);have hL0:Lists W:=xZ hL (List.mem_of_getElem? (i:=7) rfl) (List.mem_of_getElem? (i:=6) rfl);have hG0:qW W.heap.size W:=fun V h=>⟨hW0.below h,hN0.below h,hL0.below h⟩
 have hsz:(DataW.weightsEach Tryz.prog (Tryz.f4.params.toList++Rows.topMemorySpec.plain.varTypes Tryz.prog) (ds++gs)).all (· ≤ reachBytes)=true:=hsz0;clear hsz0 hL;have hval:∀ (j:Nat) t v,Tryz.f4.params[j]? = some t→args[j]? = some v→Value.okWide Tryz.prog W .any base t v:=hval0;have hW':=hW;obtain⟨p,q,hA0,hV,rfl,_,_⟩:=hW;have hA:DataW.TrodAll enc Tryz.prog W 0 (fun _=>true) true Tryz.f4.params.toList args.toList ds p:=hA0;rw[Tryz.params4] at hA hval hsz;obtain⟨v0,d0,rfl,rfl,h0⟩:=trodAll_one hA;obtain⟨rfl,rfl⟩:=trodVars_none hV;obtain⟨a0,len0,cap0,rfl⟩:=okWide_slice Tryz.underlying22 (hval 0 22 v0 rfl rfl);clear hA0 hval0;simp only[List.append_nil] at hW';have hlt:∀ x∈p,x.block<W.heap.size:=fun x hx=>by simpa using hW'.lt x (by simpa using hx)
 obtain⟨l0,_,hr0,hf0⟩:=fe (j:=0) hsz GV rfl rfl h0;refine(topMemory_any (Old W) _ l0 W hr0 hf0 hG0).mono fun e W' ⟨he,hb⟩=>?_
 subst he;refine⟨_,rfl,gM (pa:=p) (pv:=[]) hW' hb [] ?_ ?_ ?_⟩
 ·exact trodAll_mk1 (shut_bool Tryz.underlying4 true)
 ·exact trodAll_mk1 (Below.trod Tryz.laidOut (by kernel_rfl) (of_decide_eq_true (by kernel_rfl)) h0 hb (fun x hx=>hlt x (by simp[hx])))
 ·rfl
theorem topMemory_closed:joinedFacts Tryz.checked.prog 4 Tryz.f4 Rows.topMemorySpec Rows.topMemoryRow=true:=by
 unfold joinedFacts
 repeat' (with_reducible refine(Bool.and_eq_true _ _).mpr ⟨?_,?_⟩)
 all_goals (as_aux_lemma=>kernel_rfl)
theorem topMemory_holds:Rows.TopMemorySaid :=
 OpenClaim.holds_of_wide 4 Tryz.f4 rfl rfl rfl rfl rfl rfl rfl ⟨rfl,rfl,rfl,rfl,rfl⟩ rfl rfl rfl rfl rfl (by as_aux_lemma=>kernel_rfl) Tryz.func4 topMemory_closed
  (of_decide_eq_true (by as_aux_lemma=>kernel_rfl)) (by unfold Func.isWrapper;rw[if_neg (of_decide_eq_false (by as_aux_lemma=>kernel_rfl))];exact⟨rfl,rfl⟩)
  (fun os started H enc _=>topMemory_lifted os started H enc)
theorem topMemoryCard_holds:Rows.TopMemoryCardSaid :=
 Claim7.holds_tied_plain_at .later [] [.data,.data,.data,.sentinel,.sentinel,.widerDeep,.widerDeep,.widerDeep] true (true,"bce7e7d2df0512244f3c3ef50489be5e6861ad7b339d2cbd3bc9945af1e7e931") true
  topMemory_holds (fun _ h=>by cases h) (by as_aux_lemma=>kernel_rfl) (fun _ h=>by cases h) topMemory_row_tie rfl ⟨rfl,rfl⟩ (by as_aux_lemma=>kernel_rfl) rfl
  (fun f fn hf hfn=>by
   obtain rfl:f=4:=Option.some.inj ((show Tryz.prog.funcNamed "patternbook/patternbooktop.TopMemory" = some 4 by as_aux_lemma=>kernel_rfl).symm.trans hf) |>.symm
   obtain rfl:fn=Tryz.f4:=(Option.some.inj (Tryz.func4.symm.trans hfn)).symm;exact⟨(by as_aux_lemma=>kernel_rfl),fun j t ht=>by
    rw[Tryz.params4] at ht;have h3:t=22:=by
     rcases j with _ | j
     ·exact(by simpa using ht.symm)
     ·skip
      simp at ht
    subst h3;exact(show Tryz.prog.wantsStandIn 22=false by as_aux_lemma=>kernel_rfl)⟩)
  (by as_aux_lemma=>kernel_rfl)
end Go.Proofs.YtknnhpkjgnkcdaaGreatDoor
