/- The walk of the statement TopMerges: behind a merge stands all that stood behind both. -/
import Derived.Test.YthhldfpmhmocfaaGreatDoorTopLikm
import Derived.Test.YthhldfpmhmocfaaGreatDoorMapN
import Derived.Test.YthhldfpmhmocfaaGreatDoorRepoMergesLaw
set_option linter.all false
set_option maxRecDepth 100000
set_option maxHeartbeats 8000000
namespace Go.Proofs.YthhldfpmhmocfaaGreatDoor
open Go.Proofs.Tryz
open Go.RowKit Go.Maps
def lastC (nm:ByteArray)(rs:List gD):Int:=rs.foldl (fun acc y=>if y.name=nm then y.commit else acc) (-1)
theorem lastC_snoc (nm:ByteArray)(rs:List gD)(y:gD):lastC nm (rs++[y])=if y.name=nm then y.commit else lastC nm rs:=by simp[lastC]
theorem lastC_take {nm:ByteArray}{rs:List gD}{k:Nat}(h:k<rs.length):lastC nm (rs.take (k+1))=if rs[k].name=nm then rs[k].commit else lastC nm (rs.take k):=by rw[List.take_succ_eq_append_getElem h,lastC_snoc]
theorem lastC_go {nm:ByteArray}{c:Int}:∀ (rs:List gD) (acc:Int),(∀ x∈rs,x.name=nm→x.commit=c)→(acc=c∨∃ x∈rs,x.name=nm)→rs.foldl (fun acc y=>if y.name=nm then y.commit else acc) acc=c
 | [],acc,_,h2=>h2.elim id (fun ⟨_,h,_⟩=>by cases h)
 | r::rs,acc,h1,h2=>by
  rw[List.foldl_cons];refine lastC_go rs _ (fun x hx=>h1 x (List.mem_cons_of_mem _ hx)) ?_
  by_cases hr:r.name=nm
  ·rw[if_pos hr];exact .inl (h1 r List.mem_cons_self hr)
  ·rw[if_neg hr];rcases h2 with h2 | ⟨x,hx,e⟩
   ·exact .inl h2
   ·rcases List.mem_cons.1 hx with rfl | hx
    ·exact absurd e hr
    ·exact .inr ⟨x,hx,e⟩
theorem lastC_has {nm:ByteArray}{rs:List gD}(hs:iD rs)(h:qJ rs nm=true):lastC nm rs=(fH rs (fB rs nm)).commit:=by
 obtain⟨h1,h2⟩:=Kl h;exact lastC_go rs _ (fun x hx e=>by rw[Fv hs hx h2 e h1]) (.inr ⟨_,h2,h1⟩)
theorem merges_look (gb base:Nat)(w0:World)(hgb:w0.heap.size≤gb):aim 22 [.pointer (some ⟨gb,0,none⟩)] base w0 (YE gb):=by
 intro s a g W W1 row row' S S' cs hok hkp hac hfit hbW hI hN hT hb1 hN1 hS' hr' hrep;have hst:a.kind=4→(doF s a).1.code=0→afP ⟨s.cs,s.rs,s.acts+1⟩ (doF s a).2 (lastC a.name s.rs) (lastC a.other s.rs) (doF s a).1.n:=by
  intro h1 h2;have e:doF s a=zw ⟨s.cs,s.rs,s.acts+1⟩ a:=by unfold doF;rw[if_neg (by omega)]
  rw[e] at h2 ⊢;obtain⟨k1,k2,k3⟩:=amc (hok.amQ (n:=s.acts+1) (by have:=hok.most;omega) (by omega)) h1 h2;rw[lastC_has hok.sorted k1,lastC_has hok.sorted k2];exact k3
 obtain⟨hok1,-⟩:=Uw (a:=a) hok hkp;have hW:=hI.touch iG.fair hT hS' hr';obtain⟨r,hr⟩:=exE (doF s a);rw[←hr] at hst hok1 hN1 hrep ⊢;obtain⟨vf,rfl,hrf⟩:=hrep;obtain⟨AF,kF,rfl,-,-⟩:=hrf.form;obtain⟨⟨rc,rn,rt,rf⟩,s2⟩:=r;obtain⟨ak,an,am,nm,ot,tx⟩:=a;dsimp only at hst hok1 hN1 ⊢;obtain⟨x1,x2,x3⟩:=bY W1 [.int .i64 ak,.int .i64 an,.int .i64 am,.string nm,.string ot,.string tx] [.int .i64 rc,.int .i64 rn,.string rt,.slice AF rf.length kF] 28 32;have hN2:=hN1.below x3;have hW2:=hW.below iG.fair x3;have hw0:=hb1.size;have hrl:s.rs.length≤6:=hok.most.2.1;have hr2:s2.rs.length≤6:=hok1.most.2.1;have hcl:s2.cs.length≤40:=hok1.most.1;have hok40:s.cs.length≤40:=hok.most.1;have HST:=hidL hst;dsimp only[fQ];clear hst hok hkp hac hfit hbW hI hN hT hN1 hS' hr' hrf hr hW hok1 hb1;go_enter func22,ntmps22;go_upto_region 1 with fail;have hx:=x3.size;have hx2:W1.heap.size+1<_:=x2.lt;generalize World.alloc (World.alloc W1 _) _=W2 at x1 x2 x3 hN2 hW2 hx hx2 ⊢;have a0:=x1.cell 0;have r0:=x2.cell 0;have l1:=x1.lt;simp only[List.getElem?_cons_zero] at a0 r0;have HN:=hidL hN2;have HW:=hidL hW2;have X1:=hidL x1;have X2:=hidL x2;have X3:=hidL x3;clear x1 x2 x3 hN2 hW2
 by_cases h4:ak=4
 ·subst h4
  by_cases h0:rc=0
  ·--[C
   subst h0;obtain⟨own,hown⟩:=exE (lastC nm s.rs);obtain⟨oth,hoth⟩:=exE (lastC ot s.rs);have hmd:=HST.out rfl rfl;rw[←hown,←hoth] at hmd;unfold afP at hmd;dsimp only at hmd;obtain⟨d1,d2,d3,d4,d5,d6,d7,d8,d9⟩:=hmd;have Hown:=hidL hown;have Hoth:=hidL hoth;have HD1:=hidL d1;have HD2:=hidL d2;have HD9:=hidL d9;have HD:=hidL (show 0≤own∧own≤40∧0≤oth∧oth≤40∧0≤rn∧rn<s2.cs.length by have:=hok40;omega);have HC:=hidL (yM HN.out (by omega));clear hown hoth d1 d2 d3 d4 d5 d6 d7 d8 d9 HST;go_wp2_with fail;refine HC.out.mono ?_;rintro e w3 ⟨v3,rfl,hv3,hb3⟩;obtain⟨A3,c3,rfl,-,-⟩:=hv3.form;have HV:=hidL hv3;have HN3:=hidL (HN.out.below hb3);have HW3:=hidL (HW.out.below iG.fair hb3);have X13:=hidL (X1.out.below hb3 X1.out.lt);have X23:=hidL (X2.out.below hb3 X2.out.lt);have HB3:=hidL (aa X3.out hb3 hx);have hx3:=Nat.le_trans hx hb3.size;obtain⟨A0,c0,T,hT0,hc0,hgl,-⟩:=HW3.out.open;have HT0:=hidL hT0;clear hv3 hb3 HC X1 X2 X3 HN HW hT0 a0 r0 l1;go_wp2_with fail;go_loopw [9,10,28] (fun c9 c10 c28 wr=>∃ k:Nat,c28=.int .i64 k∧c9=.int .i64 (lastC nm (s.rs.take k))∧c10=.int .i64 (lastC ot (s.rs.take k))∧k≤s.rs.length∧Below w3.heap.size w3 wr) (fun _ _ c28 _=>s.rs.length-(intOf c28).toNat)
   case atStart=>exact⟨0,rfl,rfl,rfl,Nat.zero_le _,Below.refl _ _⟩
   case round =>
    obtain⟨k,rfl,rfl,rfl,hk,hb⟩:=hrel
    by_cases hlt:k<s.rs.length
    ·--[R
     obtain⟨gr,o,rfl,hS,hgr⟩:=HT0.out.base (by omega);have hc:=(HT0.out.flat (enc:=aN) hlt).keep (az.of_below hb) hS;have ht1:=lastC_take (nm:=nm) hlt;have ht2:=lastC_take (nm:=ot) hlt;obtain⟨y,hy⟩:=exE (s.rs[k]);rw[←hy] at hc ht1 ht2;obtain⟨yn,yc,yp⟩:=y;dsimp only at ht1 ht2;have q0:wr.cell? ⟨gr,o+k*3,none⟩=some (.string yn):=hc.at_ 0 rfl;have q1:wr.cell? ⟨gr,o+k*3+1,none⟩=some (.int .i64 yc):=hc.at_ 1 rfl;have q2:wr.cell? ⟨gr,o+k*3+2,none⟩=some (.int .i64 yp):=hc.at_ 2 rfl;have hgl2:=Nat.lt_of_lt_of_le hgr hb.size;have hki:(k:Int)<s.rs.length:=by omega
     have z:=Box.new wr 37 [.string yn,.int .i64 yc,.int .i64 yp];have hbx:=(Below.here wr).alloc (Nat.le_refl _) (.cells [.string yn,.int .i64 yc,.int .i64 yp].toArray 37);have hb9:=aa hb hbx hb.size;have u1:=(X13.out.below hb X13.out.lt).below hbx (X13.out.below hb X13.out.lt).lt;obtain⟨f9,hf9⟩:=exE (lastC nm (s.rs.take k));obtain⟨f10,hf10⟩:=exE (lastC ot (s.rs.take k));rw[←hf9] at ht1 ⊢;rw[←hf10] at ht2 ⊢;have Ht1:=hidL ht1;have Ht2:=hidL ht2;clear hc hy hS hbx hf9 hf10 ht1 ht2;go_upto_region 7 with fail;generalize wr.heap.size=Z at z ⊢;generalize World.alloc wr _=W4 at z u1 hb9 ⊢;have a3:=u1.cell 3;have a4:=u1.cell 4;have z0:=z.cell 0;have z1:=z.cell 1;have l1:=u1.lt;have l3:=z.lt;simp only[List.getElem?_cons_zero,List.getElem?_cons_succ] at a3 a4 z0 z1;clear q0 q1 q2 u1 z hgl2;have e9:IntKind.i64.wrap ((k:Int)+1)=(k:Int)+1:=IntWalk.i64_in _ (by omega)
     by_cases h1:yn=nm
     ·have e1:(yn.toList==nm.toList)=true:=by rw[ba_eq];simpa using h1
      have H1:Hid (lastC nm (s.rs.take (k+1))=yc):=by show _=_;rw[Ht1.out,if_pos h1]
      by_cases h2:yn=ot
      ·have e2:(yn.toList==ot.toList)=true:=by rw[ba_eq];simpa using h2
       have H2:Hid (lastC ot (s.rs.take (k+1))=yc):=by show _=_;rw[Ht2.out,if_pos h2]
       clear h1 h2 Ht1 Ht2;go_wp2_with fail;go_roundw
       case rel=>exact⟨k+1,by go_num,by rw[H1.out],by rw[H2.out],hlt,hb9⟩
       case measure=>simp[intOf];omega
      ·have e2:(yn.toList==ot.toList)=false:=by rw[ba_eq];simpa using h2
       have H2:Hid (lastC ot (s.rs.take (k+1))=f10):=by show _=_;rw[Ht2.out,if_neg h2]
       clear h1 h2 Ht1 Ht2;go_wp2_with fail;go_roundw
       case rel=>exact⟨k+1,by go_num,by rw[H1.out],by rw[H2.out],hlt,hb9⟩
       case measure=>simp[intOf];omega
     ·have e1:(yn.toList==nm.toList)=false:=by rw[ba_eq];simpa using h1
      have H1:Hid (lastC nm (s.rs.take (k+1))=f9):=by show _=_;rw[Ht1.out,if_neg h1]
      by_cases h2:yn=ot
      ·have e2:(yn.toList==ot.toList)=true:=by rw[ba_eq];simpa using h2
       have H2:Hid (lastC ot (s.rs.take (k+1))=yc):=by show _=_;rw[Ht2.out,if_pos h2]
       clear h1 h2 Ht1 Ht2;go_wp2_with fail;go_roundw
       case rel=>exact⟨k+1,by go_num,by rw[H1.out],by rw[H2.out],hlt,hb9⟩
       case measure=>simp[intOf];omega
      ·have e2:(yn.toList==ot.toList)=false:=by rw[ba_eq];simpa using h2
       have H2:Hid (lastC ot (s.rs.take (k+1))=f10):=by show _=_;rw[Ht2.out,if_neg h2]
       clear h1 h2 Ht1 Ht2;go_wp2_with fail;go_roundw
       case rel=>exact⟨k+1,by go_num,by rw[H1.out],by rw[H2.out],hlt,hb9⟩
       case measure=>simp[intOf];omega
    ·--[X
     have hki:¬ (k:Int)<s.rs.length:=by omega
     have e1:lastC nm (s.rs.take k)=own:=by rw[List.take_of_length_le (by omega),Hown.out]
     have e2:lastC ot (s.rs.take k)=oth:=by rw[List.take_of_length_le (by omega),Hoth.out]
     rw[e1,e2];have hmm:=@run_makeMap prog;have x2:=X23.out.below hb X23.out.lt;clear e1 e2 HT0 hgl hc0 X13;go_upto_region 13 with fail;clear hmm;have hM:=qZ.made (k:=3) (enc:=keyI) wr;have hbm:=(Below.here wr).alloc (Nat.le_refl _) (.map #[] 0);have hb5:=aa hb hbm hb.size;have y2:=x2.below hbm x2.lt;have hbz:w3.heap.size≤wr.heap.size:=hb.size;clear x2 hb hbm;generalize wr.heap.size=bm at hM hbz ⊢;generalize wr.alloc _=W5 at hM hb5 y2 ⊢;have hv5:=(RSl.fair dw.fair).below HV.out hb5;have r1:=y2.cell 1;have l2:=y2.lt;simp only[List.getElem?_cons_zero,List.getElem?_cons_succ] at r1;have HBH:=hidL (xm _ _ s2.cs rn W5 hv5 (by omega));have HM:=hidL hM;have hmlt:=hM.lt;have HY:=hidL y2;clear hM hv5 y2;go_wp2_with fail;refine HBH.out.mono ?_;obtain⟨L,hL⟩:=exE (dZ s2.cs rn);have hLm:∀ y∈L,0≤y∧y≤1000000:=fun y hy=>by
      rw[hL] at hy;have:=xL hy;omega
     have hLl:L.length≤40:=by rw[hL];exact Nat.le_trans (IQ _ _) hcl
     rw[←hL] at HD1 HD2 ⊢;rintro e w6 ⟨v6,rfl,-,hr6,hb6⟩;obtain⟨AL,cL,rfl,-,-⟩:=hr6.form;have HR6:=hidL hr6;have hb36:=aa hb5 hb6 hb5.size;have HM6:=hidL (HM.out.below hb6);have HLM:=hidL hLm;have hs6:=hb6.size;clear hr6 hb5 hb6 HBH HM hL hLm r1 l2;go_wp2_with fail;go_loopw [53] (fun c wx=>∃ j:Nat,c=.int .i64 j∧j≤L.length∧qZ 3 keyI wx bm j (fun y=>decide (y∈L.take j))∧RSl 1 8 aQ (New W5) wx [.slice AL L.length cL] L∧Below w3.heap.size w3 wx∧Below bm w6 wx) (fun c _=>L.length-(intOf c).toNat)
     case atStart=>exact⟨0,rfl,Nat.zero_le _,HM6.out.congr (fun y=>by simp),HR6.out,hb36,Below.refl _ _⟩
     case round =>
      clear hb36 HM6 HR6;obtain⟨j,rfl,hj,hMp,hLr,hb,hbb⟩:=hrel
      by_cases hjt:j<L.length
      ·obtain⟨gl,ol,es,hAL,hSl,hgl,-,hrx,hlx⟩:=hLr.at_ hjt;subst hAL;have hpr:=HLM.out _ (List.getElem_mem hjt);have htk:L.take (j+1)=L.take j++[L[j]]:=List.take_succ_eq_append_getElem hjt;obtain⟨p,hp⟩:=exE (L[j]);rw[←hp] at hrx hpr htk;obtain rfl:es=[.int .i64 p]:=hrx;have q0:wr.cell? ⟨gl,ol+j,none⟩=some (.int .i64 p):=by have:=hlx.at_ 0 rfl;simpa using this
       obtain⟨w7,hput,hM7,hg7⟩:=hMp.put law_int underlying42 keyI_inj (key_int hpr.1 hpr.2) (by omega);change (Instr.mapUpdate _ _ (.int .i64 p) _).run _ _=_ at hput;have hji:(j:Int)<L.length:=by omega
       have HE:=hidL (show qZ 3 keyI w7 bm (j+1) (fun y=>decide (y∈L.take (j+1)))∧RSl 1 8 aQ (New W5) w7 [.slice (some ⟨gl,ol,none⟩) L.length cL] L∧Below w3.heap.size w3 w7∧Below bm w6 w7 from
        ⟨hM7.congr (fun y=>by rw[htk];simp[or_comm]),(RSl.fair aQ.fair).keep hLr (az.bH hg7 (fun k e h=>by have:=Option.some.inj e;have h:W5.heap.size≤k:=h;omega)),below_grown hb hg7 hb.size (fun k e=>by have:=Option.some.inj e;omega),below_grown hbb hg7 (by have:=hbb.size;omega) (fun k e=>by have:=Option.some.inj e;omega)⟩)
       clear hlx hp hpr htk hMp hM7 hg7 hLr hb hbb hSl;go_wp2_with fail;go_roundw
       case rel=>exact⟨j+1,by go_num,hjt,HE.out⟩
       case measure=>simp[intOf];omega
      ·--[Y
       have hji:¬ (j:Int)<L.length:=by omega
       have hLt:L.take j=L:=List.take_of_length_le (by omega);rw[hLt] at hMp;have hk1:=hMp.look law_int underlying42 (x:=own) (key_int HD.out.1 (by have:=HD.out;omega));have hk2:=hMp.look law_int underlying42 (x:=oth) (key_int HD.out.2.2.1 (by have:=HD.out;omega));rw[decide_eq_true HD1.out] at hk1;rw[decide_eq_true HD2.out] at hk2;change (Instr.lookup _ _ (.int .i64 own) _).run _ _=_ at hk1;change (Instr.lookup _ _ (.int .i64 oth) _).run _ _=_ at hk2;have t1:¬ own<0:=by have:=HD.out;omega
       have t2:¬ oth<0:=by have:=HD.out;omega
       have hbz6:bm≤w6.heap.size:=by omega
       have y2:Box wr (W1.heap.size+1) 32 [.int .i64 0,.int .i64 rn,.string rt,.slice AF rf.length kF]:=X23.out.below hb X23.out.lt;have r1:=y2.cell 1;have l2:=y2.lt;simp only[List.getElem?_cons_zero,List.getElem?_cons_succ] at r1;have hN9:=hidL (HN3.out.below hb);have hW9:=hidL (HW3.out.below iG.fair hb);have hB9:=hidL (aa HB3.out hb hx3);have hx9:=Nat.le_trans hx3 hb.size
       by_cases c1:rn=own
       ·have e1:(rn != own)=false:=by simpa using c1
        clear c1 hMp hLr hLt hbb y2;go_upto_region 20 with fail;clear r1 l2 hk1 hk2 t1 t2 e1;have HR:=hidL (Au hN9.out (by omega));go_wp2_with fail;refine HR.out.mono ?_;rintro e w6 ⟨v6,rfl,hv6,hb6⟩;obtain⟨A7,c7,rfl,-,-⟩:=hv6.form;have hN0:=hN9.out;have hW0:=hW9.out;have hW6:=hW0.below iG.fair hb6;have hN6:=hN0.below hb6;obtain⟨A6,c6,T6,-,m0,ml,mf⟩:=hW6.open;have hB6:=aa hB9.out hb6 hx9;have Hf:Hid (Below w0.heap.size W1 (w6.setCell ⟨gb,0,none⟩ (.slice A7 s2.rs.length c7))∧bS S' row' base (w6.setCell ⟨gb,0,none⟩ (.slice A7 s2.rs.length c7)) g s2∧YE gb (w6.setCell ⟨gb,0,none⟩ (.slice A7 s2.rs.length c7)) s2 g row' S') :=
         ⟨(hB6.mono hw0).setCell (p:=⟨gb,0,none⟩) hgb _,hN6.was hW6 _,hW6.store iG.fair hv6 hN0.gLt hN0.ajS hW0.open.choose_spec.choose_spec.choose_spec.2.2.1⟩
        clear hv6 hb6 hN6 hW6 hB6 HR hN0 hW0;go_wp2_with fail;go_ret;exact⟨rfl,Hf.out⟩
       ·have e1:(rn != own)=true:=by simpa using c1
        by_cases c2:rn=oth
        ·have e2:(rn != oth)=false:=by simpa using c2
         clear c1 c2 hMp hLr hLt hbb y2;go_upto_region 20 with fail;clear r1 l2 hk1 hk2 t1 t2 e1 e2;have HR:=hidL (Au hN9.out (by omega));go_wp2_with fail;refine HR.out.mono ?_;rintro e w6 ⟨v6,rfl,hv6,hb6⟩;obtain⟨A7,c7,rfl,-,-⟩:=hv6.form;have hN0:=hN9.out;have hW0:=hW9.out;have hW6:=hW0.below iG.fair hb6;have hN6:=hN0.below hb6;obtain⟨A6,c6,T6,-,m0,ml,mf⟩:=hW6.open;have hB6:=aa hB9.out hb6 hx9;have Hf:Hid (Below w0.heap.size W1 (w6.setCell ⟨gb,0,none⟩ (.slice A7 s2.rs.length c7))∧bS S' row' base (w6.setCell ⟨gb,0,none⟩ (.slice A7 s2.rs.length c7)) g s2∧YE gb (w6.setCell ⟨gb,0,none⟩ (.slice A7 s2.rs.length c7)) s2 g row' S') :=
          ⟨(hB6.mono hw0).setCell (p:=⟨gb,0,none⟩) hgb _,hN6.was hW6 _,hW6.store iG.fair hv6 hN0.gLt hN0.ajS hW0.open.choose_spec.choose_spec.choose_spec.2.2.1⟩
         clear hv6 hb6 hN6 hW6 hB6 HR hN0 hW0;go_wp2_with fail;go_ret;exact⟨rfl,Hf.out⟩
        ·have e2:(rn != oth)=true:=by simpa using c2
         have hpp:=(HD9.out.resolve_left c1).resolve_left c2;obtain⟨nn,rfl⟩:∃ n:Nat,rn=n:=⟨rn.toNat,by have:=HD.out;omega⟩;have hnl:nn<s2.cs.length:=by have:=HD.out;omega
         obtain⟨gc,oc,es,hA3,hSc,hgc,-,hrx,hlx⟩:=((RSl.fair dw.fair).below HV.out hb).at_ hnl;subst hA3;obtain⟨vb,vp,rfl,-,hP⟩:=hrx;have hpe:s2.cs[nn].parents=[own,oth]:=by have:=hpp.1;rw[Int.toNat_natCast,Jn hnl] at this;exact this
         rw[hpe] at hP;obtain⟨P1,p1,rfl,-,-⟩:=hP.form;have q1:wr.cell? ⟨gc,oc+nn*2+1,none⟩=some (.slice P1 2 p1):=hlx.at_ 1 rfl;have hnli:(nn:Int)<s2.cs.length:=by omega
         have e3:((nn:Int) != (s2.cs.length:Int)-1)=false:=by simp;omega
         have ew:IntKind.i64.wrap ((s2.cs.length:Int)-1)=(s2.cs.length:Int)-1:=IntWalk.i64_in _ (by omega);have hbx:=(Below.here wr).alloc (Nat.le_refl _) (.cells #[.int .i64 own,.int .i64 oth] 3);have HSN:=hidL (ahu _ (New wr) _ _ [own,oth] (wr.alloc (.cells #[.int .i64 own,.int .i64 oth] 3)) ((RSl.fair aQ.fair).below hP hbx) (RSl.mD (enc:=fun x=>[.int .i64 x]) (xs:=[own,oth]) (Box.new wr 3 [.int .i64 own,.int .i64 oth]) (show wr.heap.size≤wr.heap.size from Nat.le_refl _) (Nat.le_refl _) (by show 2*8≤_;decide) (fun x hx=>rfl)));have HBX:=hidL hbx;clear c1 c2 hMp hLr hLt hbb y2 hpp hlx hpe hP hSc hbx;go_wp2_with fail;refine HSN.out.mono ?_;rintro e w8 ⟨rfl,hb8⟩;have hb98:=aa HBX.out hb8 HBX.out.size;have y8:=(X23.out.below hb X23.out.lt).below hb98 (X23.out.below hb X23.out.lt).lt;have r8:=y8.cell 1;have l8:=y8.lt;simp only[List.getElem?_cons_zero,List.getElem?_cons_succ] at r8;have hNa:=hidL (hN9.out.below hb98);have hWa:=hidL (hW9.out.below iG.fair hb98);have hBa:=hidL (aa hB9.out hb98 hx9);have hxa:=Nat.le_trans hx9 hb98.size;clear hb8 hb98 y8 hk1 hk2 t1 t2 e1 e2 q1 r1 l2 HSN;go_upto_region 20 with fail;clear r8 l8 e3 ew;have HR:=hidL (Au hNa.out (by omega));go_wp2_with fail;refine HR.out.mono ?_;rintro e w6 ⟨v6,rfl,hv6,hb6⟩;obtain⟨A7,c7,rfl,-,-⟩:=hv6.form;have hN0:=hNa.out;have hW0:=hWa.out;have hW6:=hW0.below iG.fair hb6;have hN6:=hN0.below hb6;obtain⟨A6,c6,T6,-,m0,ml,mf⟩:=hW6.open;have hB6:=aa hBa.out hb6 hxa;have Hf:Hid (Below w0.heap.size W1 (w6.setCell ⟨gb,0,none⟩ (.slice A7 s2.rs.length c7))∧bS S' row' base (w6.setCell ⟨gb,0,none⟩ (.slice A7 s2.rs.length c7)) g s2∧YE gb (w6.setCell ⟨gb,0,none⟩ (.slice A7 s2.rs.length c7)) s2 g row' S') :=
          ⟨(hB6.mono hw0).setCell (p:=⟨gb,0,none⟩) hgb _,hN6.was hW6 _,hW6.store iG.fair hv6 hN0.gLt hN0.ajS hW0.open.choose_spec.choose_spec.choose_spec.2.2.1⟩
         clear hv6 hb6 hN6 hW6 hB6 HR hN0 hW0;go_wp2_with fail;go_ret;exact⟨rfl,Hf.out⟩
  ·have e0:(rc==0)=false:=by simpa using h0
   clear HST h0;go_upto_region 20 with fail;have HR:=hidL (Au HN.out (by omega));go_wp2_with fail;refine HR.out.mono ?_;rintro e w6 ⟨v6,rfl,hv6,hb6⟩;obtain⟨A7,c7,rfl,-,-⟩:=hv6.form;have hN0:=HN.out;have hW0:=HW.out;have hW6:=hW0.below iG.fair hb6;have hN6:=hN0.below hb6;obtain⟨A6,c6,T6,-,m0,ml,mf⟩:=hW6.open;have hB6:=aa X3.out hb6 hx;have Hf:Hid (Below w0.heap.size W1 (w6.setCell ⟨gb,0,none⟩ (.slice A7 s2.rs.length c7))∧bS S' row' base (w6.setCell ⟨gb,0,none⟩ (.slice A7 s2.rs.length c7)) g s2∧YE gb (w6.setCell ⟨gb,0,none⟩ (.slice A7 s2.rs.length c7)) s2 g row' S') :=
    ⟨(hB6.mono hw0).setCell (p:=⟨gb,0,none⟩) hgb _,hN6.was hW6 _,hW6.store iG.fair hv6 hN0.gLt hN0.ajS hW0.open.choose_spec.choose_spec.choose_spec.2.2.1⟩
   clear hv6 hb6 hN6 hW6 hB6 HR hN0 hW0;go_wp2_with fail;go_ret;exact⟨rfl,Hf.out⟩
 ·have e4:(ak==4)=false:=by simpa using h4
  clear HST h4;go_upto_region 20 with fail;have HR:=hidL (Au HN.out (by omega));go_wp2_with fail;refine HR.out.mono ?_;rintro e w6 ⟨v6,rfl,hv6,hb6⟩;obtain⟨A7,c7,rfl,-,-⟩:=hv6.form;have hN0:=HN.out;have hW0:=HW.out;have hW6:=hW0.below iG.fair hb6;have hN6:=hN0.below hb6;obtain⟨A6,c6,T6,-,m0,ml,mf⟩:=hW6.open;have hB6:=aa X3.out hb6 hx;have Hf:Hid (Below w0.heap.size W1 (w6.setCell ⟨gb,0,none⟩ (.slice A7 s2.rs.length c7))∧bS S' row' base (w6.setCell ⟨gb,0,none⟩ (.slice A7 s2.rs.length c7)) g s2∧YE gb (w6.setCell ⟨gb,0,none⟩ (.slice A7 s2.rs.length c7)) s2 g row' S') :=
   ⟨(hB6.mono hw0).setCell (p:=⟨gb,0,none⟩) hgb _,hN6.was hW6 _,hW6.store iG.fair hv6 hN0.gLt hN0.ajS hW0.open.choose_spec.choose_spec.choose_spec.2.2.1⟩
  clear hv6 hb6 hN6 hW6 hB6 HR hN0 hW0;go_wp2_with fail;go_ret;exact⟨rfl,Hf.out⟩
theorem topMerges_any (S:Nat→Prop)(v:Value)(l:List mG)(w:World)(hl:RSl 6 72 Tn S w [v] l)(hfit:∀ a∈l,IM a)(hG:qW w.heap.size w):Calls prog 6 #[v] w (Ret w (.bool true)):=by
 obtain⟨A,cap,rfl,-,-⟩:=hl.form;obtain⟨x1,x2⟩:=kZ w [.slice none 0 0] 23;have hgb:=x1.lt;have HP:=hidL (SI (I:=YE w.heap.size) 22 [.pointer (some ⟨w.heap.size,0,none⟩)] (enters_of func22 (by kernel_rfl) rfl) A cap l S w _ hl hfit x2 hG (merges_look w.heap.size _ w (Nat.le_refl _)) (fun W g hg hb _=>Was.new (x1.below hb x1.lt) (by omega)));clear hl hfit hG;go_enter func6,ntmps6;go_wp2_with fail;refine HP.out.mono ?_;rintro e w2 ⟨g,row,S2,rfl,-,-,hb⟩;have hb2:=x2.trans hb;clear hb x1 HP hgb;go_wp2_with fail;go_ret;exact⟨rfl,hb2⟩
end Go.Proofs.YthhldfpmhmocfaaGreatDoor
