/- The walk of the statement TopMemory: what was told is written over, and nobody minds. -/
import Derived.Test.YtknnhpkjgnkcdaaGreatDoorMemA
set_option linter.all false
set_option maxRecDepth 100000
set_option maxHeartbeats 8000000
namespace Go.Proofs.YtknnhpkjgnkcdaaGreatDoor
open Go.Proofs.Tryz
open Go.RowKit
section
variable {S S1 S2 S':Nat→Prop}{row row2 row':Option Nat}{b2 g g2:Nat}{w:World}{s2:cK}
theorem Far.act (h2:bS S2 row2 b2 w g2 s2)(h3:Far row g row2 g2 S2)(h4:Far row2 g2 row g S1)(hrow:row'=row∨∀ k,row'=some k→w.heap.size≤k)(hS:∀ y,S' y→S1 y∨w.heap.size≤y):Far row' g row2 g2 S2∧Far row2 g2 row' g S':=by
 have hg:=h2.gLt;have hr2:∀ y,row2=some y→y<w.heap.size:=fun y e=>by subst e;exact h2.GM.2
 have hS2:∀ y,S2 y→y<w.heap.size:=by obtain⟨_,_,_,_,_,_,_,_,a7,_⟩:=h2;exact a7
 refine⟨⟨h3.1,?_,h3.2.2.1,fun k e=>?_,h3.2.2.2.2.1,fun k e=>?_⟩,⟨h4.1,h4.2.1,?_,fun k e=>?_,fun h=>?_,fun k e h=>?_⟩⟩
 ·rcases hrow with rfl | hrow
  ·exact h3.2.1
  ·intro e;have:=hrow _ e;omega
 ·rcases hrow with rfl | hrow
  ·exact h3.2.2.2.1 k e
  ·intro e2;have:=hrow _ e2;have:=hr2 k e;omega
 ·rcases hrow with rfl | hrow
  ·exact h3.2.2.2.2.2 k e
  ·intro h;have:=hrow _ e;have:=hS2 k h;omega
 ·rcases hrow with rfl | hrow
  ·exact h4.2.2.1
  ·intro e;have:=hrow _ e;omega
 ·rcases hrow with rfl | hrow
  ·exact h4.2.2.2.1 k e
  ·intro e2;have:=hrow _ e;have:=hr2 k e2;omega
 ·exact(hS _ h).elim h4.2.2.2.2.1 (fun k=>by omega)
 ·exact(hS _ h).elim (h4.2.2.2.2.2 k e) (fun j=>by have:=hr2 k e;omega)
end
def Out (gb g:Nat)(row:Option Nat)(S:Nat→Prop):Prop:=gb≠g∧row≠some gb∧¬ S gb
theorem Out.act {gb g:Nat}{row row':Option Nat}{S S':Nat→Prop}{w:World}(h:Out gb g row S)(hl:gb<w.heap.size)(hrow:row'=row∨∀ k,row'=some k→w.heap.size≤k)(hS:∀ y,S' y→S y∨w.heap.size≤y):Out gb g row' S':=by
 obtain⟨h1,h2,h3⟩:=h;refine⟨h1,?_,fun h=>(hS _ h).elim h3 (fun k=>by omega)⟩;rcases hrow with rfl | hrow
 ·exact h2
 ·intro e;have:=hrow _ e;omega
def MemI (gb b2:Nat):World→cK→Nat→Option Nat→(Nat→Prop)→Prop:=fun W s g row S=>∃ go row2 S2,Box W gb 23 [.pointer (some ⟨go,0,none⟩)]∧bS S2 row2 b2 W go s∧Far row g row2 go S2∧Far row2 go row g S∧Out gb g row S∧Out gb go row2 S2
theorem mem_look (gb base:Nat)(w0:World)(hG:qW w0.heap.size w0):aim 13 [.pointer (some ⟨gb,0,none⟩)] base w0 (MemI gb w0.heap.size):=by
 intro s a g W W1 row row' S S' cs hok hkp hac hfit hbW hI hN hT hb1 hN1 hS' hr' hrep;obtain⟨go,row2,S2,hbx,hro,hf1,hf2,ho1,ho2⟩:=hI;have hro1:bS S2 row2 w0.heap.size W1 go s:=hro.touch hT hf1;obtain⟨hf3,hf4⟩:=hf1.act hro hf2 hr' hS';have hbx1:=hbx.touch hT ho1.1 ho1.2.1;have ho3:=ho1.act hbx.lt hr' hS';have hgo:=hro.gLt;have hrl:∀ y,row2=some y→y<W.heap.size:=fun y e=>by subst e;exact hro.GM.2
 have hok1:=(Uw (a:=a) hok hkp).1;obtain⟨r,hr⟩:=exE (doF s a);rw[←hr] at hok1 hN1 hrep ⊢;obtain⟨vf,rfl,hrf⟩:=hrep;obtain⟨AF,kF,rfl,-,-⟩:=hrf.form;obtain⟨x1,x2,x3⟩:=bY W1 (fQ a) [O r.1.code,O r.1.n,.string r.1.text,.slice AF r.1.flaws.length kF] 35 32;have hw0:=hb1.size;have HD:=fun V (h:Below W1.heap.size W1 V)=>WL a (hro1.below h) hok hfit.1 hfit.2.2 (Nat.le_trans hw0 h.size) (hG.below (hb1.trans (h.mono hw0)))
 rw[←hr] at HD;have hTs:=hT.size;have HRE:Hid (jd (fun y=>W.heap.size≤y∧row'≠some y) W1 [O r.1.code,O r.1.n,.string r.1.text,.slice AF r.1.flaws.length kF] r.1):=⟨_,rfl,hrf⟩;obtain⟨⟨rc,rn,rt,rf⟩,s2⟩:=r;obtain⟨ak,an,am,nm,ot,tx⟩:=a;dsimp only[fQ] at hok1 hN1 HD HRE x1 x2 x3 ⊢;have HDO:=hidL HD;have HOK:=hidL hok1;have HN1:=hidL hN1;have HRO:=hidL (And.intro hro1 (And.intro hf3 (And.intro hf4 (And.intro ho3 ho2))));have HGO:=hidL (And.intro hgo (And.intro hrl hTs));have HBX:=hidL hbx1;have HB1:=hidL hb1;clear hok hkp hac hfit hbW hN hT hb1 hN1 hS' hr' hrf hr hok1 hbx hro hf1 hf2 ho1 ho2 hro1 hf3 hf4 hbx1 ho3 hgo hrl HD hTs hG;go_enter func13,ntmps13;go_upto_region 1 with fail;have hx:=x3.size;have hX0:W1.heap.size≤W1.heap.size:=Nat.le_refl _;obtain⟨X,hX⟩:=exE W1.heap.size;obtain⟨Y,hY⟩:=exE (W1.heap.size+1);rw[←hX] at x1;rw[←hY] at x2;have HXY:=hidL (And.intro (show W1.heap.size≤X by omega) (show W1.heap.size≤Y by omega));rw[←hY,←hX];generalize World.alloc (World.alloc W1 _) _=W2 at x1 x2 x3 hx ⊢;clear hX hY hX0;have HX1:=hidL x1;have HX2:=hidL x2;have hwd:=au x3;have HS0:Hid (∀ V,Touch row2 go W2 V→(fun W'=>LL W' gb 0 (.pointer (some ⟨go,0,none⟩))∧LL W' X 0 (O ak)∧LL W' X 1 (O an)∧LL W' X 2 (O am)∧LL W' X 3 (.string nm)∧LL W' X 4 (.string ot)∧LL W' X 5 (.string tx)∧LL W' Y 0 (O rc)∧LL W' Y 1 (O rn)∧LL W' Y 2 (.string rt)∧LL W' Y 3 (.slice AF rf.length kF)) V):=fun V h=>by
  have n1:X≠go:=by have:=HGO.out.1;have:=HGO.out.2.2;have:=HXY.out.1;omega
  have n2:row2≠some X:=fun e=>by have:=HGO.out.2.1 _ e;have:=HGO.out.2.2;have:=HXY.out.1;omega
  have n3:Y≠go:=by have:=HGO.out.1;have:=HGO.out.2.2;have:=HXY.out.2;omega
  have n4:row2≠some Y:=fun e=>by have:=HGO.out.2.1 _ e;have:=HGO.out.2.2;have:=HXY.out.2;omega
  have z1:=HX1.out.touch h n1 n2;have z2:=HX2.out.touch h n3 n4;have z3:=(HBX.out.below x3 HBX.out.lt).touch h HRO.out.2.2.2.2.1 HRO.out.2.2.2.2.2.1;exact⟨z3.cell 0,z1.cell 0,z1.cell 1,z1.cell 2,z1.cell 3,z1.cell 4,z1.cell 5,z2.cell 0,z2.cell 1,z2.cell 2,z2.cell 3⟩
 have hS:(fun W'=>LL W' gb 0 (.pointer (some ⟨go,0,none⟩))∧LL W' X 0 (O ak)∧LL W' X 1 (O an)∧LL W' X 2 (O am)∧LL W' X 3 (.string nm)∧LL W' X 4 (.string ot)∧LL W' X 5 (.string tx)∧LL W' Y 0 (O rc)∧LL W' Y 1 (O rn)∧LL W' Y 2 (.string rt)∧LL W' Y 3 (.slice AF rf.length kF)) W2.drew:=HS0.out _ (Touch.below (au (Below.here W2)));have hT0:Touch row2 go W2 W2.drew:=Touch.below (au (Below.here W2));refine aJ (fun W'=>LL W' gb 0 (.pointer (some ⟨go,0,none⟩))∧LL W' X 0 (O ak)∧LL W' X 1 (O an)∧LL W' X 2 (O am)∧LL W' X 3 (.string nm)∧LL W' X 4 (.string ot)∧LL W' X 5 (.string tx)∧LL W' Y 0 (O rc)∧LL W' Y 1 (O rn)∧LL W' Y 2 (.string rt)∧LL W' Y 3 (.slice AF rf.length kF)) (fun _=>true) (by kernel_rfl) ?_;clear x1 x2;generalize W2.drew=Wd at hS hwd hT0 ⊢;apply tkP 0 hS;apply tkP 1 hS;apply tkP 3 hS
 try simp only[pu]
 refine ang 2 (fun K hK=>?_);go_simp;refine(HDO.out _ hwd).mono ?_;rintro e w3 ⟨cs3,S3,row3,rfl,hr3,hn3,hS3,hrow3,hT3⟩;have hTT:=hT0.trans hT3 (.inl rfl);replace hS:=HS0.out _ hTT;have HRE3:=hidL (jd.fair.keep (jd.fair.below HRE.out hwd) (hT3.keep (S:=fun y=>W.heap.size≤y∧row'≠some y) (fun h=>by have:=HGO.out.1;have:=h.1;omega) (fun y e h=>by have:=HGO.out.2.1 y e;have:=h.1;omega)));have HSR:=hidL (aki _ _ cs3 _ ⟨rc,rn,rt,rf⟩ w3 hr3 HRE3.out);have hf5:=(Far.act (HN1.out.below hwd) HRO.out.2.2.1 HRO.out.2.1 hrow3 hS3);have HP:=hidL (And.intro (HRO.out.2.2.2.1) (And.intro (HRO.out.2.2.2.2.act (w:=Wd) (by have:=HBX.out.lt;have:=hwd.size;omega) hrow3 hS3) hf5));have HN3:=hidL ((HN1.out.below hwd).touch hT3 HRO.out.2.2.1);have HO3:=hidL hn3;have hB3:=hidL ((HB1.out.trans (hwd.mono hw0)).trans ((HRO.out.1.below hwd).KE hT3 (Nat.le_trans hw0 hwd.size)));have HWB:=hidL ((hwd.mono hw0).trans ((HRO.out.1.below hwd).KE hT3 (Nat.le_trans hw0 hwd.size)));have hG3:=(HBX.out.below hwd HBX.out.lt).touch hT3 HRO.out.2.2.2.2.1 HRO.out.2.2.2.2.2.1;have HGB:=hidL hG3;clear hr3 hn3 hS3 hrow3 hT3 hT0 hwd hf5 hG3;refine hK.out _ _ (fun _ _=>hS) ?_
 try simp only[pu]
 refine ang 4 (fun K hK=>?_);go_simp;refine(HSR.out).mono ?_;rintro e w4 ⟨rfl,hb4⟩;replace hS:=HS0.out _ (hTT.via hb4);refine hK.out _ _ (fun _ _=>hS) ?_
 try simp only[pu]
 apply ppP 5;apply ppP 6;apply ppP 7;apply tkP 8 hS
 try simp only[pu]
 refine ang 9 (fun K hK=>?_);go_simp;refine(qB (HN3.out.below hb4) (HO3.out.below hb4) rfl rfl (by have:=HOK.out.most.1;show _≤_;omega) (by have:=HOK.out.most.2.1;show _≤_;omega)).mono ?_;rintro e w5 ⟨rfl,hb5⟩;have hb35:=aa hb4 hb5 hb4.size;replace hS:=HS0.out _ (hTT.via hb35);refine hK.out _ _ (fun _ _=>hS) ?_
 try simp only[pu]
 apply ppP 10;apply ppP 11
 try simp only[pu]
 refine anf ?_ _;have HN5:=hidL (HN3.out.below hb35);have HB35:=hidL hb35;clear hS hTT hb4 hb5 hb35 HS0 HSR HRE HRE3 HN3 HX1 HX2 HXY HN1 HDO hx;have HCM:=hidL (commitsK_any HN5.out (by have:=HOK.out.most.1;omega));obtain⟨n,hn⟩:=exE s2.cs;rw[←hn] at HCM;have HCN:=hidL (show n.length≤40 by rw[hn];exact HOK.out.most.1);clear hn;go_wp2_with fail;refine HCM.out.mono ?_;rintro e w6 ⟨vc,rfl,hvc,hkc,hb6⟩;obtain⟨AC,kC,rfl,-,-⟩:=hvc.form;have HVC:=hidL hvc;have HKC:=hidL hkc;have HB6:=hidL hb6;clear hvc hkc hb6 HCM;obtain⟨B,hB⟩:=exE w5.heap.size;have HNB:Hid (∀ g,New w5 g→B≤g):=fun g h=>by rw[hB];exact h
 have HBB:=hidL hB;have hB6:B≤w6.heap.size:=by rw[hB];exact HB6.out.size
 clear hB;go_wp2_with fail;go_loopw [33] (fun i wr=>∃ k:Nat,i=O k∧k≤n.length∧Sp B w6 wr) (fun i _=>n.length-(intOf i).toNat)
 case atStart=>exact⟨0,rfl,Nat.zero_le _,Sp.refl _ _⟩
 case round =>
  obtain⟨k,rfl,hk,hs6⟩:=hrel
  by_cases hlt:k<n.length
  ·--[ROW
   obtain⟨gc,P,p,Q,q,rfl,hcm,hbk,hps,kbk,kps⟩:=Sp.commit HVC.out HKC.out hlt;obtain⟨qL,q0,q1⟩:=hcm _ hs6;obtain⟨bk,hbe⟩:=exE (n[k].book);obtain⟨ps,hpe⟩:=exE (n[k].parents);rw[←hbe] at q0 hbk kbk;rw[←hpe] at q1 hps kps;obtain⟨_,_,h1,-,hbn⟩:=hbk.form;obtain⟨_,_,h2,-,hpn⟩:=hps.form;have hki:(k:Int)<n.length:=by omega
   have hkn:=HCN.out;have z:=Box.new wr 44 [.slice P bk.length p,.slice Q ps.length q];have hs7:=hs6.then ((Below.here wr).alloc (Nat.le_refl _) (.cells [.slice P bk.length p,.slice Q ps.length q].toArray 44)) hB6;have HBK:=hidL hbk;have HPS:=hidL hps;have KBK:=hidL kbk;have KPS:=hidL kps;clear hcm hbe hpe hbk hps kbk kps hs6 h1 h2;go_upto_region 6 with fail;generalize wr.heap.size=Z at z ⊢;generalize World.alloc wr _=W7 at z hs7 ⊢;have HS7:=hidL hs7;have HZ:=hidL (fun V (h:Sp B W7 V)=>show LL V Z 0 (.slice P bk.length p)∧LL V Z 1 (.slice Q ps.length q)∧Z<V.heap.size from by
    obtain⟨z',bz,-,-,dz⟩:=h.2 _ _ _ z;obtain rfl:=dz rfl;exact⟨bz.cell 0,bz.cell 1,bz.lt⟩)
   obtain⟨z0,-,zl⟩:=HZ.out _ (Sp.refl _ _);clear q0 q1 qL z hs7;go_wp2_with fail;clear z0 zl;go_loopw [41] (fun i wi=>∃ j:Nat,i=O j∧j≤bk.length∧Sp B W7 wi) (fun i _=>bk.length-(intOf i).toNat)
   case atStart=>exact⟨0,rfl,Nat.zero_le _,Sp.refl _ _⟩
   case round =>
    obtain⟨j,rfl,hj,hs⟩:=hrel;obtain⟨z0,z1,zl⟩:=HZ.out _ hs
    by_cases hjt:j<bk.length
    ·obtain⟨gt,P1,p1,P2,p2,P3,p3,eP,hBt,hty,r1,r2,r3,k1,k2,k3⟩:=Sp.type HBK.out KBK.out HNB.out hjt;subst eP;obtain⟨zt,ut,bt,t0,-⟩:=hty _ (HS7.out.trans hs);obtain⟨fs,hfs⟩:=exE (bk[j].fields);obtain⟨gs,hgs⟩:=exE (bk[j].gone);obtain⟨is,his⟩:=exE (bk[j].items);rw[←hfs] at r1 k1 hty;rw[←hgs] at r2 k2 hty;rw[←his] at r3 k3 hty;obtain⟨_,_,e1,-,n1⟩:=r1.form;obtain⟨_,_,e2,-,n2⟩:=r2.form;obtain⟨_,_,e3,-,n3⟩:=r3.form;have HTY:=hidL hty;have R1:=hidL r1;have R2:=hidL r2;have R3:=hidL r3;have K1:=hidL k1;have K2:=hidL k2;have K3:=hidL k3;have ft:=bt.frozen (j*5);have tl:=bt.lt;have hji:(j:Int)<bk.length:=by omega
     have hs8:=hs.set (i:=j*5) bt hBt (by decide) (fun _=>by omega) (.string ⟨#[115,112,111,105,108,116]⟩);clear hty r1 r2 r3 k1 k2 k3 e1 e2 e3 hfs hgs his bt hs z1;go_upto_region 11 with fail;clear z0 zl t0 ft tl;generalize World.setCell wr _ _=w8 at hs8 ⊢;obtain⟨zt,ut,bt,-,u2,u3,u4⟩:=HTY.out _ (HS7.out.trans hs8);have tl:=bt.lt;have hs:=hs8;clear bt hs8;go_wp2_with fail;clear u2 u3 u4 tl;go_loopw [57] (fun i wi=>∃ f:Nat,i=O f∧f≤fs.length∧Sp B W7 wi) (fun i _=>fs.length-(intOf i).toNat)
     case atStart=>exact⟨0,rfl,Nat.zero_le _,hs⟩
     case round =>
      clear hs;obtain⟨f,rfl,hf,hs⟩:=hrel;obtain⟨zt,ut,bt,-,u2,u3,u4⟩:=HTY.out _ (HS7.out.trans hs);have tl:=bt.lt;clear bt
      by_cases hft:f<fs.length
      ·obtain⟨gl,zl,ul,ea,hBl,bl,ql⟩:=(HS7.out.trans hs).leaf (j:=3) R1.out K1.out HNB.out hft (by decide);subst ea;have ql':LL wr gl (f*5+3) ul:=by simpa using ql
       have ll:=bl.lt;have fl:=bl.frozen (f*5+3);have hfi:(f:Int)<fs.length:=by omega
       have hsn:=hs.set (i:=f*5+3) bl hBl (by decide) (fun e=>absurd e (by decide)) (O (-1));clear bl hBl ql;go_wp2;go_roundw
       case rel=>exact⟨f+1,by go_num,by omega,hsn⟩
       case measure=>simp[intOf];omega
      ·have hfi:¬ (f:Int)<fs.length:=by omega
       go_wp2_with fail;clear u2 u3 u4 tl hfi hft hf;go_loopw [73] (fun i wi=>∃ f:Nat,i=O f∧f≤is.length∧Sp B W7 wi) (fun i _=>is.length-(intOf i).toNat)
       case atStart=>exact⟨0,rfl,Nat.zero_le _,hs⟩
       case round =>
        clear hs;obtain⟨f,rfl,hf,hs⟩:=hrel;obtain⟨zt,ut,bt,-,u2,u3,u4⟩:=HTY.out _ (HS7.out.trans hs);have tl:=bt.lt;clear bt
        by_cases hft:f<is.length
        ·obtain⟨gl,zl,ul,ea,hBl,bl,ql⟩:=(HS7.out.trans hs).leaf (j:=1) R3.out K3.out HNB.out hft (by decide);subst ea;have ql':LL wr gl (f*2+1) ul:=by simpa using ql
         have ll:=bl.lt;have fl:=bl.frozen (f*2+1);have hfi:(f:Int)<is.length:=by omega
         have hsn:=hs.set (i:=f*2+1) bl hBl (by decide) (fun e=>absurd e (by decide)) (O (-1));clear bl hBl ql;go_wp2;go_roundw
         case rel=>exact⟨f+1,by go_num,by omega,hsn⟩
         case measure=>simp[intOf];omega
        ·have hfi:¬ (f:Int)<is.length:=by omega
         go_wp2_with fail;clear u2 u3 u4 tl hfi hft hf;go_loopw [89] (fun i wi=>∃ f:Nat,i=O f∧f≤gs.length∧Sp B W7 wi) (fun i _=>gs.length-(intOf i).toNat)
         case atStart=>exact⟨0,rfl,Nat.zero_le _,hs⟩
         case round =>
          clear hs;obtain⟨f,rfl,hf,hs⟩:=hrel;obtain⟨zt,ut,bt,-,u2,u3,u4⟩:=HTY.out _ (HS7.out.trans hs);have tl:=bt.lt;clear bt
          by_cases hft:f<gs.length
          ·obtain⟨gl,zl,ul,ea,hBl,bl,ql⟩:=(HS7.out.trans hs).leaf (j:=0) R2.out K2.out HNB.out hft (by decide);subst ea;have ql':LL wr gl f ul:=by simpa using ql
           have ll:=bl.lt;have fl:=bl.frozen (f);have hfi:(f:Int)<gs.length:=by omega
           have hsn:=hs.set (i:=f) bl hBl (by decide) (fun e=>absurd e (by decide)) (O (-1));clear bl hBl ql;go_wp2;go_roundw
           case rel=>exact⟨f+1,by go_num,by omega,hsn⟩
           case measure=>simp[intOf];omega
          ·have hfi:¬ (f:Int)<gs.length:=by omega
           go_wp2;go_roundw
           case rel=>exact⟨j+1,by go_num,by omega,hs⟩
           case measure=>simp[intOf];omega
    ·--[PAR
     have hji:¬ (j:Int)<bk.length:=by omega
     go_wp2_with fail;clear z0 z1 zl;go_loopw [103] (fun i wi=>∃ f:Nat,i=O f∧f≤ps.length∧Sp B W7 wi) (fun i _=>ps.length-(intOf i).toNat)
     case atStart=>exact⟨0,rfl,Nat.zero_le _,hs⟩
     case round =>
      clear hs;obtain⟨f,rfl,hf,hs⟩:=hrel;obtain⟨z0,z1,zl⟩:=HZ.out _ hs
      by_cases hft:f<ps.length
      ·obtain⟨gl,z9,ul,ea,hBl,bl,ql⟩:=(HS7.out.trans hs).leaf (j:=0) HPS.out KPS.out HNB.out hft (by decide);subst ea;have ql':LL wr gl f ul:=by simpa using ql
       have ll:=bl.lt;have fl:=bl.frozen f;have hfi:(f:Int)<ps.length:=by omega
       have hsn:=hs.set (i:=f) bl hBl (by decide) (fun e=>absurd e (by decide)) (O (-1));clear bl hBl ql z0;go_wp2;go_roundw
       case rel=>exact⟨f+1,by go_num,by omega,hsn⟩
       case measure=>simp[intOf];omega
      ·have hfi:¬ (f:Int)<ps.length:=by omega
       have hs9:=HS7.out.trans hs;clear z0 z1 zl hs;go_wp2;go_roundw
       case rel=>exact⟨k+1,by go_num,by omega,hs9⟩
       case measure=>simp[intOf];omega
  ·--[REFS
   have hki:¬ (k:Int)<n.length:=by omega
   have hb5:Below w5.heap.size w5 wr:=HB6.out.trans (HBB.out ▸ hs6.1);have HRF:=hidL (refsK_any (HN5.out.below hb5) (by have:=HOK.out.most.2.1;omega));have hBr:B≤wr.heap.size:=Nat.le_trans hB6 hs6.size;have Hb5:=hidL hb5;clear hs6 hb5;go_wp2_with fail;refine HRF.out.mono ?_;rintro e w7 ⟨vr,rfl,hvr,hkr,hb7⟩;obtain⟨AR,kR,rfl,-,-⟩:=hvr.form;have HVR:=hidL hvr;have HKR:=hidL hkr;have hrn:=HOK.out.most.2.1;have HNR:Hid (∀ g,New wr g→B≤g):=fun g h=>Nat.le_trans hBr h
   have H57:=hidL (aa Hb5.out hb7 Hb5.out.size);obtain⟨rs,hrs⟩:=exE s2.rs;rw[←hrs] at HVR HKR hrn ⊢;clear hvr hkr hb7 HRF hrs;go_wp2_with fail;go_loopw [16] (fun i wi=>∃ f:Nat,i=O f∧f≤rs.length∧Sp B w7 wi) (fun i _=>rs.length-(intOf i).toNat)
   case atStart=>exact⟨0,rfl,Nat.zero_le _,Sp.refl _ _⟩
   case round =>
    obtain⟨f,rfl,hf,hs⟩:=hrel
    by_cases hft:f<rs.length
    ·obtain⟨gl,z9,ul,ea,hBl,bl,ql⟩:=hs.leaf (j:=0) HVR.out HKR.out HNR.out hft (by decide);subst ea;have ql':LL wr gl (f*3) ul:=by simpa using ql
     have ll:=bl.lt;have fl:=bl.frozen (f*3);have hfi:(f:Int)<rs.length:=by omega
     have hsn:=hs.set (i:=f*3) bl hBl (by decide) (fun e=>absurd e (by decide)) (.string ⟨#[115,112,111,105,108,116]⟩);clear bl hBl ql;go_wp2;go_roundw
     case rel=>exact⟨f+1,by go_num,by omega,hsn⟩
     case measure=>simp[intOf];omega
    ·have hfi:¬ (f:Int)<rs.length:=by omega
     have hb5:Below w5.heap.size w5 wr:=H57.out.trans (HBB.out ▸ hs.1);have hb3:=aa HB35.out hb5 HB35.out.size;clear hs;go_wp2;go_ret;exact⟨rfl,aa HWB.out hb3 (Nat.le_trans hw0 HWB.out.size),HN5.out.below hb5,go,row3,S3,HGB.out.below hb3 HGB.out.lt,HO3.out.below hb3,HP.out.2.2.2,HP.out.2.2.1,HP.out.1,HP.out.2.1⟩
theorem topMemory_any (S:Nat→Prop)(v:Value)(l:List mG)(w:World)(hl:RSl 6 72 Tn S w [v] l)(hfit:∀ a∈l,IM a)(hG:qW w.heap.size w):Calls prog 4 #[v] w (Ret w (.bool true)):=by
 obtain⟨A,cap,rfl,-,-⟩:=hl.form;have HN:=hidL (aeu w.heap.size w (Nat.le_refl _));have HL:=hidL hl;have HF:=hidL hfit;have HG:=hidL hG;clear hl hfit hG;go_enter func4,ntmps4;go_wp2_with fail;refine HN.out.mono ?_;rintro e w1 ⟨rfl,hr,hb1⟩;obtain⟨x1,x2⟩:=kZ w1 [.pointer (some ⟨w.heap.size,0,none⟩)] 23;have hb2:=aa hb1 x2 hb1.size;have hgl:=hr.gLt;have HR:=hidL (hr.below x2);clear hr hb1 HN;go_upto_region 2 with fail;generalize w1.heap.size=gb at x1 hgl ⊢;generalize World.alloc w1 _=w2 at x1 x2 hb2 HR ⊢;have HP:=hidL (SI (I:=MemI gb w.heap.size) 13 [.pointer (some ⟨gb,0,none⟩)] (enters_of func13 (by kernel_rfl) rfl) A cap l S w w2 HL.out HF.out hb2 HG.out (mem_look gb _ w HG.out) (fun W g hg hb _=>⟨w.heap.size,none,NoT,x1.below hb x1.lt,HR.out.below hb,⟨by have:=HR.out.gLt;omega,(fun e=>by cases e),(fun e=>by cases e),(fun _ e=>by cases e),(fun h=>h),(fun _ e=>by cases e)⟩,⟨by have:=HR.out.gLt;omega,(fun e=>by cases e),(fun e=>by cases e),(fun _ e=>by cases e),(fun h=>h),(fun _ e=>by cases e)⟩,⟨by have:=x1.lt;omega,(fun e=>by cases e),(fun h=>h)⟩,⟨by omega,(fun e=>by cases e),(fun h=>h)⟩⟩));clear HL HF HG HR x1 x2 hgl;go_wp2_with fail;refine HP.out.mono ?_;rintro e w3 ⟨g,row,S2,rfl,-,-,hb⟩;have hb3:=hb2.trans hb;clear hb hb2 HP;go_wp2;go_ret;exact⟨rfl,hb3⟩
end Go.Proofs.YtknnhpkjgnkcdaaGreatDoor
