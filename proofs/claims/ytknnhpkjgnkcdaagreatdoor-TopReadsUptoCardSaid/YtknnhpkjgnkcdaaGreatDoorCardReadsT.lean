/- The statement TopReads in its second form (input up to the given bulk), proved, and its card: for every input the law returns true, and its arguments read as before. What the call reads of the listed variables is had from the row. -/
import Derived.Test.YtknnhpkjgnkcdaaGreatDoorCards
import Derived.Test.YtknnhpkjgnkcdaaGreatDoorTie
import Derived.Test.YtknnhpkjgnkcdaaGreatDoorRdB
import Derived.Lay
import Derived.Deep.DeepHandedRow
set_option linter.all false
set_option maxRecDepth 100000
set_option maxHeartbeats 8000000
namespace Go.Proofs.YtknnhpkjgnkcdaaGreatDoor
open Go.RowKit Go.ChangeShapes Go.WideShapes Go.ChangeAt
open Go.ChangeMaps (open_string)
theorem topReads_reads (os:Os){H:Type}(enc:TypeId × Value→H):∃ places,DataW.whole enc Tryz.prog ((World.laidAll Tryz.prog os Rows.topReadsUptoRow.laid).forCall (fun _ _=>0) ⟨#[],#[Z0,.string .empty,.agg #[O 0,O 0,.string .empty,Z0,Z0]],[]⟩).memory Tryz.f5.params.toList Rows.topReadsSpec.vars false (#[Z0,.string .empty,.agg #[O 0,O 0,.string .empty,Z0,Z0]]:Array Value).toList 8 =
  some ([.nil,.lit (.string []),.agg [.lit (Lit.int .i64 0),.lit (Lit.int .i64 0),.lit (.string []),.nil,.nil]],[],places) :=
 ⟨[],by kernel_rfl⟩
theorem topReads_lifted (os:Os)(started:os.Started)(H:Type)(enc:TypeId × Value→H)(F:Stop.Interp) :
  ReturnsInHanded {} Tryz.checked os 5 .any ((Rows.OpenSpec.upto Rows.topReadsSpec).preRow enc Tryz.prog Tryz.f5 Rows.topReadsUptoRow.domain false Rows.topReadsUptoRow.laid) (((Rows.OpenSpec.upto Rows.topReadsSpec).at F).post enc Tryz.prog Tryz.f5 false true false false):=by
 obtain⟨places,hx⟩:=topReads_reads os enc;have hsh:((World.laidAll Tryz.prog os Rows.topReadsUptoRow.laid).forCall (fun _ _=>0) ⟨#[],#[Z0,.string .empty,.agg #[O 0,O 0,.string .empty,Z0,Z0]],[]⟩).Shaped Tryz.checked.prog:=World.shaped_of_ZipB (by kernel_rfl) (by kernel_rfl);have hok:Input.okWideB Tryz.checked.prog ((World.laidAll Tryz.prog os Rows.topReadsUptoRow.laid).forCall (fun _ _=>0) ⟨#[],#[Z0,.string .empty,.agg #[O 0,O 0,.string .empty,Z0,Z0]],[]⟩) 5 ⟨#[],#[Z0,.string .empty,.agg #[O 0,O 0,.string .empty,Z0,Z0]],[]⟩=true:=by kernel_rfl
 refine returnsInHanded_of_row (C:=Tryz.checked) (s:=Rows.OpenSpec.upto Rows.topReadsSpec) Tryz.own started (by kernel_rfl) Tryz.func5
  ⟨World.laidAll Tryz.prog os Rows.topReadsUptoRow.laid,fun _ _=>0,⟨#[],#[Z0,.string .empty,.agg #[O 0,O 0,.string .empty,Z0,Z0]],[]⟩,World.laidAll_os _ _ _,hsh,(Input.okWide_of_okWideB (base:=0) hok).1,(Input.okWide_of_okWideB hok).2,
   OpenSpec.preRow_of_cond 8 hx (by kernel_rfl) (fun k hk=>by cases hk;kernel_rfl) (by kernel_rfl) (by rw[MakeChecks.laidMetH_plain _ _ _ (by kernel_rfl)];exact laidMet_laidAll _ (by kernel_rfl) (by kernel_rfl)),by
   simp[Assume.holds]⟩ ?_
 clear hsh hok hx;intro W base args ds gs before hval0 hW _ hcond hsz0 hL _ _;rw[MakeChecks.laidMetH_plain _ _ _ (by kernel_rfl)] at hL;have hW0:Words W:=ym hL (List.mem_of_getElem? (i:=5) rfl);have hN0:wO W:=Cf hL (List.mem_of_getElem? (i:=2) rfl) (List.mem_of_getElem? (i:=4) rfl) (List.mem_of_getElem? (i:=3) rfl);have hL0:Lists W:=xZ hL (List.mem_of_getElem? (i:=7) rfl) (List.mem_of_getElem? (i:=6) rfl);have hG0:qW W.heap.size W:=fun V h=>⟨hW0.below h,hN0.below h,hL0.below h⟩
 have hsz:(DataW.weightsEach Tryz.prog (Tryz.f5.params.toList++(Rows.OpenSpec.upto Rows.topReadsSpec).bare.plain.varTypes Tryz.prog) (ds++gs)).all (· ≤ reachBytes)=true:=hsz0;have hbulk:Rows.uptoSmall H (ds++gs)=true:=hcond _ rfl;clear hsz0 hL hcond;have hval:∀ (j:Nat) t v,Tryz.f5.params[j]? = some t→args[j]? = some v→Value.okWide Tryz.prog W .any base t v:=hval0;have hW':=hW;obtain⟨p,q,hA0,hV,rfl,_,_⟩:=hW;have hA:DataW.TrodAll enc Tryz.prog W 0 (fun _=>true) true Tryz.f5.params.toList args.toList ds p:=hA0;rw[Tryz.params5] at hA hval hsz;obtain⟨v0,v1,v2,d0,d1,d2,p0,p1,p2,rfl,rfl,rfl,h0,h1,h2⟩:=trodAll_three hA;obtain⟨rfl,rfl⟩:=trodVars_none hV;obtain⟨a0,len0,cap0,rfl⟩:=okWide_slice Tryz.underlying22 (hval 0 22 v0 rfl rfl);obtain⟨s1,hvs1,hds1,hps1,hs1⟩:=open_string Tryz.underlying9 (hval 1 9 v1 rfl rfl) h1;subst hvs1;obtain⟨c2,rfl,hc2⟩:=okWide_struct Tryz.underlying65 (hval 2 65 v2 rfl rfl);clear hA0 hval0;simp only[List.append_nil] at hW' hbulk;have hlt:∀ x∈p0++p1++p2,x.block<W.heap.size:=fun x hx=>by simpa using hW'.lt x (by simpa using hx)
 obtain⟨l0,_,hr0,hf0⟩:=fe (j:=0) hsz GV rfl rfl h0;have hv2:∃ v,(Value.agg c2).cells.toList.length=5∧aA (Old W) W (Value.agg c2).cells.toList v∧(okV v∧aD v≤Rows.uptoBulk d2∧aW v≤Rows.uptoBulk d2):=by
  obtain⟨fuel,hf⟩:=h2;exact rH _ fuel _ (d2,p2) (Nat.le_refl _) (fun n hn=>by
   have:=List.all_eq_true.1 hsz _ (DataW.weights_mem_each (j:=2) rfl rfl n hn);simpa using this) hf
 obtain⟨v2,hl2,hr2,ho2,hd2,hn2⟩:=hv2;replace hr2:aA (Old W) W c2.toList v2:=hr2;have hbk2:Rows.uptoBulk d2≤4611686018427387904:=by
  have h1:Rows.uptoBulkAll [d0,d1,d2]≤1048576:=by simpa[Rows.uptoSmall] using hbulk
  simp only[Rows.uptoBulkAll] at h1;omega
 obtain⟨cl2,rfl⟩:∃ l:List Value,c2=l.toArray:=⟨c2.toList,by simp⟩;refine(topReads_any (Old W) (Old W) _ l0 s1 cl2 v2 W hr0 hf0 hG0 (by simpa using hr2) ho2 (by omega) (by omega)).mono fun e W' ⟨he,hb⟩=>?_
 subst he;refine⟨_,rfl,gM (pa:=p0++(p1++p2)) (pv:=[]) hW' hb [] ?_ ?_ ?_⟩
 ·exact trodAll_mk1 (shut_bool Tryz.underlying4 true)
 ·exact trodAll_mk3 (Below.trod Tryz.laidOut (by kernel_rfl) (of_decide_eq_true (by kernel_rfl)) h0 hb (fun x hx=>hlt x (by simp[hx]))) (Below.trod Tryz.laidOut (by kernel_rfl) (of_decide_eq_true (by kernel_rfl)) h1 hb (fun x hx=>hlt x (by simp[hx]))) (Below.trod Tryz.laidOut (by kernel_rfl) (of_decide_eq_true (by kernel_rfl)) h2 hb (fun x hx=>hlt x (by simp[hx])))
 ·rfl
theorem topReads_saidUpto:Rows.TopReadsUptoSaid :=
 OpenClaim.holds_of_cond 5 Tryz.f5 rfl rfl rfl rfl rfl rfl rfl ⟨rfl,rfl,rfl,rfl,rfl⟩ rfl rfl rfl rfl rfl (by as_aux_lemma=>kernel_rfl) Tryz.func5 (by as_aux_lemma=>kernel_rfl)
  (of_decide_eq_true (by as_aux_lemma=>kernel_rfl)) (by unfold Func.isWrapper;rw[if_neg (of_decide_eq_false (by as_aux_lemma=>kernel_rfl))];exact⟨rfl,rfl⟩)
  (fun os started H enc _ F=>by rw[OpenClaim.pre_eq_preRow];exact topReads_lifted os started H enc F)
theorem topReadsUptoCard_holds:Rows.TopReadsUptoCardSaid :=
 Claim7.holds_tied_plain_at .later [] _ _ _ _ topReads_saidUpto (fun _ h=>by cases h) (by as_aux_lemma=>kernel_rfl) (fun _ h=>by cases h) topReadsUpto_row_tie rfl ⟨rfl,rfl⟩ (by as_aux_lemma=>kernel_rfl) rfl
  (fun f fn hf hfn=>by
   obtain rfl:f=5:=Option.some.inj ((show Tryz.prog.funcNamed "patternbook/patternbooktop.TopReads" = some 5 by as_aux_lemma=>kernel_rfl).symm.trans hf) |>.symm
   obtain rfl:fn=Tryz.f5:=(Option.some.inj (Tryz.func5.symm.trans hfn)).symm;exact⟨(by as_aux_lemma=>kernel_rfl),fun j t ht=>by
    rw[Tryz.params5] at ht;have h3:t=22∨t=9∨t=65:=by
     rcases j with _ | _ | _ | j
     ·exact(.inl (by simpa using ht.symm))
     ·exact(.inr (.inl (by simpa using ht.symm)))
     ·exact(.inr (.inr (by simpa using ht.symm)))
     ·simp at ht
    rcases h3 with rfl | rfl | rfl
    all_goals exact(show Tryz.prog.wantsStandIn _=false by as_aux_lemma=>kernel_rfl)⟩)
  (by as_aux_lemma=>kernel_rfl)
end Go.Proofs.YtknnhpkjgnkcdaaGreatDoor
