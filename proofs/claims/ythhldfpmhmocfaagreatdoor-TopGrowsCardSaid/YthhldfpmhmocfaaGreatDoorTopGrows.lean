/- The walk of the statement TopGrows: what was committed stays as it is, each is good, and behind what was there; numbers go up one by one. -/
import Derived.Test.YthhldfpmhmocfaaGreatDoorTopSame
set_option linter.all false
set_option maxRecDepth 100000
set_option maxHeartbeats 8000000
namespace Go.Proofs.YthhldfpmhmocfaaGreatDoor
open Go.Proofs.Tryz
open Go.RowKit
def anU (gb:Nat):World→cK→Nat→Option Nat→(Nat→Prop)→Prop:=fun W s g row S=>Was dw 2 48 33 gb W s.cs g row S
theorem anS (gb base:Nat)(w0:World)(hgb:w0.heap.size≤gb)(hG:qW w0.heap.size w0):aim 28 [.pointer (some ⟨gb,0,none⟩)] base w0 (anU gb):=by
 intro s a g W W1 row row' S S' cs hok hkp hac hfit hbW hI hN hT hb1 hN1 hS' hr' hrep;have hst:=(OU (a:=a) hok hkp hac).grow;obtain⟨hok1,-⟩:=Uw (a:=a) hok hkp;have hW:=hI.touch (dw.fair) hT hS' hr';obtain⟨r,hr⟩:=exE (doF s a);rw[←hr] at hst hok1 hN1 hrep ⊢;obtain⟨vf,rfl,hrf⟩:=hrep;obtain⟨AF,kF,rfl,-,-⟩:=hrf.form;obtain⟨⟨rc,rn,rt,rf⟩,s2⟩:=r;obtain⟨ak,an,am,nm,ot,tx⟩:=a;dsimp only at hst hok1 hN1 ⊢;obtain⟨ts,hts,htl⟩:∃ ts,s2.cs=s.cs++ts∧(ts=[]∨ts.length=1∧rc=0∧rn=s.cs.length∧(ak=1∨ak=4)):=by
  rcases hst with h | ⟨c,h,h2⟩
  ·exact⟨[],by simpa using h,.inl rfl⟩
  ·exact⟨[c],h,.inr ⟨rfl,h2⟩⟩
 obtain⟨m1,hm1⟩:=exE s.cs.length;obtain⟨m2,hm2⟩:=exE s2.cs.length;have hmm:m1≤m2∧m2≤m1+1∧m2≤40∧(m2=m1∨rc=0∧rn=m1∧(ak=1∨ak=4)):=by
  have:=hok1.most.1;have h3:m2=m1+ts.length:=by rw[hm2,hts,List.length_append,hm1]
  rw[←hm2] at this;rcases htl with rfl | ⟨h1,h2⟩
  ·exact⟨by omega,by simp at h3;omega,this,.inl (by simpa using h3)⟩
  ·exact⟨by omega,by omega,this,.inr (by rw[hm1];exact h2)⟩
 obtain⟨x1,x2,x3⟩:=bY W1 [.int .i64 ak,.int .i64 an,.int .i64 am,.string nm,.string ot,.string tx] [.int .i64 rc,.int .i64 rn,.string rt,.slice AF rf.length kF] 28 32;have hN2:=hN1.below x3;have hW2:=hW.below (dw.fair) x3;have hw0:=hb1.size;have HOK:=hidL hok1;have HTS:=hidL hts;have HM:=hidL hmm;have HM1:=hidL hm1;have HM2:=hidL hm2;have HGW:=hidL (hG.below hb1);dsimp only[fQ];clear hst hok hkp hac hfit hbW hI hN hT hN1 hS' hr' hrf hr hW hok1 hb1 hts htl hmm hm1 hm2 hG;go_enter func28,ntmps28;go_upto_region 1 with fail;have hx:=x3.size;generalize World.alloc (World.alloc W1 _) _=W2 at x1 x2 x3 hN2 hW2 hx ⊢;have HN:=hidL hN2;have HW:=hidL hW2;have X1:=hidL x1;have X2:=hidL x2;have HC:=hidL (yM hN2 (by have:=HOK.out.most.1;omega));clear hN2 hW2 x1 x2;go_wp2_with fail;refine HC.out.mono ?_;rintro e w3 ⟨v3,rfl,hv3,hb3⟩;obtain⟨A3,c3,rfl,hc3,-⟩:=hv3.form;have HV:=hidL hv3;rw[←HM2.out] at hc3 ⊢;have HN3:=hidL (HN.out.below hb3);have HW3:=hidL (HW.out.below (dw.fair) hb3);have X13:=hidL (X1.out.below hb3 X1.out.lt);have X23:=hidL (X2.out.below hb3 X2.out.lt);have HB3:=hidL (aa x3 hb3 hx);have hx3:=Nat.le_trans hx hb3.size;have hs23:=hb3.size;clear hv3 hb3 HC X1 X2 x3;obtain⟨A0,c0,T,hT0,hc0,hgl,-⟩:=HW3.out.open;rw[←HM1.out] at hc0;have HT0:=hidL hT0;have HC0:=hidL hc0;have HGL:=hidL hgl;have d1:¬ m2<m1:=by have:=HM.out;omega
 have e1:IntKind.i64.wrap ((m1:Int)+1)=(m1:Int)+1:=IntWalk.i64_in _ (by have:=HM.out;omega);have d2:decide ((m2:Int) > (m1:Int)+1)=false:=by have:=HM.out;simp;omega
 have d3:decide ((m2:Int) > 40)=false:=by have:=HM.out;simp;omega
 have hm12:m1≤m2:=HM.out.1;have hmc:(m1:Int)≤c3:=by omega
 have HSM:=hidL (fun V (h:Below w3.heap.size w3 V)=>aef _ _ _ _ s.cs V (RSl.front (HTS.out ▸ (RSl.fair dw.fair).below HV.out h)) ((RSl.fair dw.fair).below hT0 h));rw[←HM1.out] at HSM;clear hT0 hc0 hgl;go_upto_region 2 with fail;have hw:=au (Below.refl w3.heap.size w3);have hS:(fun W'=>World.cell? W' ⟨gb,0,none⟩=some (.slice A0 m1 c0)) w3.drew:=HC0.out;have HS2:=hidL (fun V (h:Below w3.heap.size w3 V)=>(h.cell (p:=⟨gb,0,none⟩) HGL.out).trans HC0.out);refine aJ (fun W'=>World.cell? W' ⟨gb,0,none⟩=some (.slice A0 m1 c0)) (fun i=>i != 24) (by kernel_rfl) ?_;generalize w3.drew=Wd at hw hS ⊢;refine ppP 0 ?_;refine ppP 1 ?_;refine tkP 2 hS ?_;refine ppP 3 ?_;refine ppP 4 ?_;refine ppP 5 ?_;refine ppP 6 ?_;refine ppP 7 ?_;refine tkP 8 hS ?_;refine ppP 9 ?_;refine ppP 10 ?_;refine ppP 11 ?_;refine ppP 12 ?_;refine ppP 13 ?_;refine ppP 14 ?_;refine ppP 15 ?_;refine ppP 16 ?_;refine ppP 17 ?_;refine ppP 18 ?_;refine ppP 19 ?_;refine tkP 20 hS ?_;refine ppP 21 ?_;refine ppP 22 ?_;refine tkP 23 hS ?_
 try simp only[pu]
 refine ang 24 (fun K hK=>?_);go_simp;refine(HSM.out _ hw).mono ?_;rintro e w4 ⟨rfl,hb4⟩;have hw4:=aa hw hb4 hw.size;refine hK.out _ _ nay ?_;clear hK K
 try simp only[pu]
 refine ppP 25 ?_;refine ppP 26 ?_
 try simp only[pu]
 refine anf ?_ _;clear hS hw hb4 HSM d1 d2 d3 e1;have hm40:m2≤40:=HM.out.2.2.1;go_wp2_with fail;go_loopw [44] (fun i wr=>∃ k:Nat,i=.int .i64 k∧k≤m2∧Below w3.heap.size w3 wr) (fun i _=>m2-(intOf i).toNat)
 case atStart=>exact⟨0,rfl,Nat.zero_le _,hw4⟩
 case round =>
  clear hw4;obtain⟨k,rfl,hk,hb⟩:=hrel
  by_cases hlt:k<m2
  ·have hlt2:k<s2.cs.length:=by have:=HM2.out;omega
   obtain⟨gc,oc,es,hA3,hSc,hgc,hes,hrx,hlx⟩:=((RSl.fair dw.fair).below HV.out hb).at_ hlt2;subst hA3;have hbk:=HOK.out.books _ (List.getElem_mem hlt2);have hpk:=HOK.out.parents k hlt2;obtain⟨cm,hcm⟩:=exE (s2.cs[k]);rw[←hcm] at hrx hbk hpk;obtain⟨cb,cp⟩:=cm;dsimp only at hbk hpk;obtain⟨vb,vp,rfl,hrb,hrp⟩:=hrx;dsimp only at hrb hrp;obtain⟨B1,b1,rfl,-,-⟩:=hrb.form;obtain⟨P1,p1,rfl,-,-⟩:=hrp.form;have q0:wr.cell? ⟨gc,oc+k*2,none⟩=some (.slice B1 cb.length b1):=hlx.at_ 0 rfl;have q1:wr.cell? ⟨gc,oc+k*2+1,none⟩=some (.slice P1 cp.length p1):=hlx.at_ 1 rfl;have hki:(k:Int)<m2:=by omega
   have z:=Box.new wr 50 [.slice B1 cb.length b1,.slice P1 cp.length p1];have hbx:=(Below.here wr).alloc (Nat.le_refl _) (.cells [.slice B1 cb.length b1,.slice P1 cp.length p1].toArray 50);have hb5:=aa hb hbx hb.size;have HRB:=hidL ((RSl.fair ah.fair).below hrb hbx);have HRP:=hidL ((RSl.fair aQ.fair).below hrp hbx);have HBK:=hidL hbk;have HPK:=hidL hpk;clear hrb hrp hlx hSc hes hcm hbk hpk hbx;go_upto_region 7 with fail;generalize wr.heap.size=Z at z ⊢;obtain⟨W5,hW5⟩:=exE (wr.alloc (.cells [.slice B1 cb.length b1,.slice P1 cp.length p1].toArray 50));have e5:World.alloc wr (.cells #[.slice B1 cb.length b1,.slice P1 cp.length p1] 50)=W5:=hW5.symm;rw[←hW5] at z hb5 HRB HRP;rw[e5];clear hW5 e5 q0 q1 hgc hb;have HGD:=hidL (kS _ _ cb W5 HRB.out (HGW.out W5 ((aa HB3.out hb5 hx3).mono hw0)).1 (iA HBK.out));rw[HBK.out] at HGD;have Z5:=hidL z;have z0:=z.cell 0;have zl:=z.lt;simp only[List.getElem?_cons_zero] at z0;clear z;go_wp2_with fail;refine HGD.out.mono ?_;rintro e w6 ⟨rfl,hb6⟩;have z1:=(Z5.out.below hb6 Z5.out.lt).cell 1;have zl6:=(Z5.out.below hb6 Z5.out.lt).lt;simp only[List.getElem?_cons_zero,List.getElem?_cons_succ] at z1;have HRP6:=hidL ((RSl.fair aQ.fair).below HRP.out hb6);have hb36:=aa hb5 hb6 hb5.size;have hcp2:cp.length≤2:=HPK.out.1;have d2:decide ((cp.length:Int) > 2)=false:=by simp;omega
   clear hb5 hb6 HRP HRB HGD z0 zl;go_wp2_with fail;go_loopw [62] (fun i wi=>∃ j:Nat,i=.int .i64 j∧j≤cp.length∧Below w6.heap.size w6 wi) (fun i _=>cp.length-(intOf i).toNat)
   case atStart=>exact⟨0,rfl,Nat.zero_le _,Below.refl _ _⟩
   case round =>
    clear z1 zl6;obtain⟨j,rfl,hj,hbi⟩:=hrel
    by_cases hjt:j<cp.length
    ·obtain⟨gp,op,es,hP1,-,hgp,-,hrx,hlx⟩:=((RSl.fair aQ.fair).below HRP6.out hbi).at_ hjt;subst hP1;have hpp:=HPK.out.2 _ (List.getElem_mem hjt);obtain⟨p,hp⟩:=exE (cp[j]);rw[←hp] at hrx hpp;obtain rfl:es=[.int .i64 p]:=hrx;have q0:wr.cell? ⟨gp,op+j,none⟩=some (.int .i64 p):=by have:=hlx.at_ 0 rfl;simpa using this
     have hji:(j:Int)<cp.length:=by omega
     have d4:decide (p<0)=false:=by simp;omega
     have d5:decide (p≥(k:Int))=false:=by simp;omega
     clear hlx hp hpp;go_wp2_with fail;go_roundw
     case rel=>exact⟨j+1,by go_num,by omega,hbi⟩
     case measure=>simp[intOf];omega
    ·have hji:¬ (j:Int)<cp.length:=by omega
     have hb9:=aa hb36 hbi hb36.size;go_wp2_with fail;go_roundw
     case rel=>exact⟨k+1,by go_num,by omega,hb9⟩
     case measure=>simp[intOf];omega
  ·have hki:¬ (k:Int)<m2:=by omega
   have x1:=X13.out.below hb X13.out.lt;have x2:=X23.out.below hb X23.out.lt;have a0:=x1.cell 0;have r0:=x2.cell 0;have r1:=x2.cell 1;have l1:=x1.lt;have l2:=x2.lt;have hc0:=HS2.out _ hb;have hgl:=Nat.lt_of_lt_of_le HGL.out hb.size;simp only[List.getElem?_cons_zero,List.getElem?_cons_succ] at a0 r0 r1;have hWr:=HW3.out.below (dw.fair) hb;obtain⟨-,-,-,-,-,-,mf⟩:=hWr.open;have Hf:Hid (Below w0.heap.size W1 (wr.setCell ⟨gb,0,none⟩ (.slice A3 m2 c3))∧bS S' row' base (wr.setCell ⟨gb,0,none⟩ (.slice A3 m2 c3)) g s2∧anU gb (wr.setCell ⟨gb,0,none⟩ (.slice A3 m2 c3)) s2 g row' S') :=
    ⟨((aa HB3.out hb hx3).mono hw0).setCell (p:=⟨gb,0,none⟩) hgb _,(HN3.out.below hb).was hWr _,hWr.store (dw.fair) (HM2.out.symm ▸ (RSl.fair dw.fair).below HV.out hb) HN.out.gLt HN.out.ajS HW.out.open.choose_spec.choose_spec.choose_spec.2.2.1⟩
   have hmm:=HM.out;clear x1 x2 hWr HGW HV HS2;rcases hmm with ⟨h1,h2,h3,h4⟩
   by_cases h5:m2=m1
   ·subst h5;clear h1 h2 h3 h4;go_wp2_with fail;go_ret;exact⟨rfl,Hf.out⟩
   ·have d1:m1<m2:=by omega
    obtain⟨rfl,rfl,h6⟩:=h4.resolve_left h5;clear h1 h2 h3 h4 h5;rcases h6 with rfl | rfl
    all_goals
     go_wp2_with fail;go_ret;exact⟨rfl,Hf.out⟩
theorem anN (S:Nat→Prop)(v:Value)(l:List mG)(w:World)(hl:RSl 6 72 Tn S w [v] l)(hfit:∀ a∈l,IM a)(hG:qW w.heap.size w):Calls prog 8 #[v] w (Ret w (.bool true)):=by
 obtain⟨A,cap,rfl,-,-⟩:=hl.form;obtain⟨x1,x2⟩:=kZ w [.slice none 0 0] 33;have hgb:=x1.lt;have HP:=hidL (SI (I:=anU w.heap.size) 28 [.pointer (some ⟨w.heap.size,0,none⟩)] (enters_of func28 (by kernel_rfl) rfl) A cap l S w _ hl hfit x2 hG (anS w.heap.size _ w (Nat.le_refl _) hG) (fun W g hg hb _=>Was.new (x1.below hb x1.lt) (by omega)));clear hl hfit hG;go_enter func8,ntmps8;go_wp2_with fail;refine HP.out.mono ?_;rintro e w2 ⟨g,row,S2,rfl,-,-,hb⟩;have hb2:=x2.trans hb;clear hb x1 HP hgb;go_wp2_with fail;go_ret;exact⟨rfl,hb2⟩
end Go.Proofs.YthhldfpmhmocfaaGreatDoor
