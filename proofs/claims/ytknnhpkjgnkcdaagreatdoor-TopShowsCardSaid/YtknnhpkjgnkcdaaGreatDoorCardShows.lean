/- The statement TopShows, proved, and its card: for every input the law returns true, and its arguments read as before. What the call reads of the listed variables is had from the row. -/
import Derived.Test.YtknnhpkjgnkcdaaGreatDoorCards
import Derived.Test.YtknnhpkjgnkcdaaGreatDoorTie
import Derived.Test.YtknnhpkjgnkcdaaGreatDoorTopShows
import Derived.Lay
set_option linter.all false
set_option maxRecDepth 100000
set_option maxHeartbeats 8000000
namespace Go.Proofs.YtknnhpkjgnkcdaaGreatDoor
open Go.RowKit Go.ChangeShapes Go.WideShapes Go.ChangeAt
theorem anD (os:Os)(started:os.Started)(H:Type)(enc:TypeId × Value→H) :
  ReturnsInHanded {} Tryz.checked os 3 .any (fun w args=>(Rows.topShowsSpec.pre enc Tryz.prog Tryz.f3 Rows.topShowsRow.domain false w args∧laidMetH Tryz.prog Rows.topShowsRow.laid w)∧sizedMet enc Tryz.prog Tryz.f3 (OpenSpec.ofChange Rows.topShowsSpec) false w args)
   (Rows.topShowsSpec.post enc Tryz.prog Tryz.f3 false true false false):=by
 refine returnsInHanded_of_change_and (C:=Tryz.checked) (X:=fun w _=>laidMetH Tryz.prog Rows.topShowsRow.laid w) (fun _ _ _ hh h=>h.of_heap hh) Tryz.own started (by kernel_rfl) Tryz.func3
  (ChangeSpec.witness_shaped (enc:=enc) (C:=Tryz.checked) (os:=os) (X:=fun w _=>laidMetH Tryz.prog Rows.topShowsRow.laid w) false (World.laidAll Tryz.prog os Rows.topShowsRow.laid) #[Z0,O 0] 8 (World.laidAll_os _ _ _)
   (World.shaped_of_ZipB (by kernel_rfl) (by kernel_rfl)) (by kernel_rfl) (by kernel_rfl) (by kernel_rfl)
   (by rw[MakeChecks.laidMetH_plain _ _ _ (by kernel_rfl)];exact laidMet_laidAll _ (by kernel_rfl) (by kernel_rfl))) ?_
 intro W base args ds gs before hval0 hW _ hsz0 hL _;rw[MakeChecks.laidMetH_plain _ _ _ (by kernel_rfl)] at hL;have hW0:Words W:=ym hL (List.mem_of_getElem? (i:=5) rfl);have hN0:wO W:=Cf hL (List.mem_of_getElem? (i:=2) rfl) (List.mem_of_getElem? (i:=4) rfl) (List.mem_of_getElem? (i:=3) rfl);have hL0:Lists W:=xZ hL (List.mem_of_getElem? (i:=7) rfl) (List.mem_of_getElem? (i:=6) rfl);have hG0:qW W.heap.size W:=fun V h=>⟨hW0.below h,hN0.below h,hL0.below h⟩
 have hsz:(DataW.weightsEach Tryz.prog (Tryz.f3.params.toList++Rows.topShowsSpec.plain.varTypes Tryz.prog) (ds++gs)).all (· ≤ reachBytes)=true:=hsz0;clear hsz0 hL;have hval:∀ (j:Nat) t v,Tryz.f3.params[j]? = some t→args[j]? = some v→Value.okWide Tryz.prog W .any base t v:=hval0;have hW':=hW;obtain⟨p,q,hA0,hV,rfl,_,_⟩:=hW;have hA:DataW.TrodAll enc Tryz.prog W 0 (fun _=>true) true Tryz.f3.params.toList args.toList ds p:=hA0;rw[Tryz.params3] at hA hval hsz;obtain⟨v0,v1,d0,d1,p0,p1,rfl,rfl,rfl,h0,h1⟩:=trodAll_two hA;obtain⟨rfl,rfl⟩:=trodVars_none hV;obtain⟨a0,len0,cap0,rfl⟩:=okWide_slice Tryz.underlying22 (hval 0 22 v0 rfl rfl);obtain⟨i1,hvs1,hds1,hps1,hi1⟩:=open_int Tryz.underlying3 (hval 1 3 v1 rfl rfl) h1;subst hvs1;clear hA0 hval0;simp only[List.append_nil] at hW';have hlt:∀ x∈p0++p1,x.block<W.heap.size:=fun x hx=>by simpa using hW'.lt x (by simpa using hx)
 obtain⟨l0,_,hr0,hf0⟩:=fe (j:=0) hsz GV rfl rfl h0;refine(anL (Old W) _ l0 i1 W hr0 hf0 hG0).mono fun e W' ⟨he,hb⟩=>?_
 subst he;refine⟨_,rfl,gM (pa:=p0++p1) (pv:=[]) hW' hb [] ?_ ?_ ?_⟩
 ·exact trodAll_mk1 (shut_bool Tryz.underlying4 true)
 ·exact trodAll_mk2 (Below.trod Tryz.laidOut (by kernel_rfl) (of_decide_eq_true (by kernel_rfl)) h0 hb (fun x hx=>hlt x (by simp[hx]))) (Below.trod Tryz.laidOut (by kernel_rfl) (of_decide_eq_true (by kernel_rfl)) h1 hb (fun x hx=>hlt x (by simp[hx])))
 ·rfl
theorem anG:joinedFacts Tryz.checked.prog 3 Tryz.f3 Rows.topShowsSpec Rows.topShowsRow=true:=by
 unfold joinedFacts
 repeat' (with_reducible refine(Bool.and_eq_true _ _).mpr ⟨?_,?_⟩)
 all_goals (as_aux_lemma=>kernel_rfl)
theorem topShows_holds:Rows.TopShowsSaid :=
 OpenClaim.holds_of_wide 3 Tryz.f3 rfl rfl rfl rfl rfl rfl rfl ⟨rfl,rfl,rfl,rfl,rfl⟩ rfl rfl rfl rfl rfl (by as_aux_lemma=>kernel_rfl) Tryz.func3 anG
  (of_decide_eq_true (by as_aux_lemma=>kernel_rfl)) (by unfold Func.isWrapper;rw[if_neg (of_decide_eq_false (by as_aux_lemma=>kernel_rfl))];exact⟨rfl,rfl⟩)
  (fun os started H enc _=>anD os started H enc)
theorem topShowsCard_holds:Rows.TopShowsCardSaid :=
 Claim7.holds_tied_plain_at .later [] [.data,.data,.data,.sentinel,.sentinel,.widerDeep,.widerDeep,.widerDeep] true (true,"bce7e7d2df0512244f3c3ef50489be5e6861ad7b339d2cbd3bc9945af1e7e931") true
  topShows_holds (fun _ h=>by cases h) (by as_aux_lemma=>kernel_rfl) (fun _ h=>by cases h) topShows_row_tie rfl ⟨rfl,rfl⟩ (by as_aux_lemma=>kernel_rfl) rfl
  (fun f fn hf hfn=>by
   obtain rfl:f=3:=Option.some.inj ((show Tryz.prog.funcNamed "patternbook/patternbooktop.TopShows" = some 3 by as_aux_lemma=>kernel_rfl).symm.trans hf) |>.symm
   obtain rfl:fn=Tryz.f3:=(Option.some.inj (Tryz.func3.symm.trans hfn)).symm;exact⟨(by as_aux_lemma=>kernel_rfl),fun j t ht=>by
    rw[Tryz.params3] at ht;have h3:t=22∨t=3:=by
     rcases j with _ | j
     ·exact(.inl (by simpa using ht.symm))
     ·skip
      rcases j with _ | j
      ·exact(.inr (by simpa using ht.symm))
      ·skip
       simp at ht
    rcases h3 with rfl | rfl
    ·exact(show Tryz.prog.wantsStandIn 22=false by as_aux_lemma=>kernel_rfl)
    ·exact(show Tryz.prog.wantsStandIn 3=false by as_aux_lemma=>kernel_rfl)⟩)
  (by as_aux_lemma=>kernel_rfl)
end Go.Proofs.YtknnhpkjgnkcdaaGreatDoor
