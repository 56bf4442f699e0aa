/- Walks and plain laws. -/
import Derived.Test.YtknnhpkjgnkcdaaGreatDoorRepob
set_option linter.all false
set_option maxRecDepth 100000
set_option maxHeartbeats 8000000
namespace Go.Proofs.YtknnhpkjgnkcdaaGreatDoor
open Go.Proofs.Tryz
open Go.RowKit
theorem eD.put {S S0 S':Nat→Prop}{row:Option Nat}{base g x:Nat}{w W:World}{s s':cK}{r:kR}{cs zs:List Value}(h:bS S0 row base w g s)(hn:bS S' row base W g s')(ht:Touch row g w W)(hS:∀ y,S' y→S y∨w.heap.size≤y)
  (hx:w.heap.size≤x) (hSx:¬ S' x) (hgw:g<w.heap.size) (hb:Box W x 32 zs) (hz:zs.length=cs.length) (hr:jd (fun y=>w.heap.size≤y∧y≠x) W cs r) :
  Box (setCells W x 0 cs) x 32 cs∧eD S row base g w (r,s') (.returned (.agg cs.toArray)) (setCells W x 0 cs):=by
 refine⟨hb.setCells _ hz.symm,eD.of h ?_ (bS.fq (by omega) (fun e=>?_) hSx cs 0 W hn) hS (Touch.setCells hx cs 0 W ht)⟩
 ·exact jd.fair.mono (jd.fair.keep hr (az.setCells (fun h=>h.2 rfl) cs 0 W)) (fun y h _=>h.1)
 ·subst e;have:=h.GM.2;omega
theorem change_results {W:World}{a:Act}{g:Nat}{c0 c1 c2 c3:Value}(hb:Box W g 32 [c0,c1,c2,c3])(h4:a.tmps.getD 6 undef=.pointer (some ⟨g,0,none⟩)) :
  (results f26 a.tmps).run prog W=.ok (.agg #[c0,c1,c2,c3]) W:=by
 have e0:=hb.c 0 rfl;have e1:=hb.c 1 rfl;have e2:=hb.c 2 rfl;have e3:=hb.c 3 rfl;simp only[Array.getD_eq_getD_getElem?] at h4;simp[results,results26,go_sem,h4,e0,e1,e2,e3]
theorem acF {S:Nat→Prop}{row:Option Nat}{base g:Nat}{w:World}{s:cK}(k:Nat)(a:mG)(h:bS S row base w g s)(hk:gY s)(hl:k<s.rs.length)(hb:base≤w.heap.size)(hG:qW base w) :
  Calls prog 26 #[.pointer (some ⟨g,0,none⟩),O k,.agg (fQ a).toArray] w (eD S row base g w (uQ s k a)):=by
 obtain⟨R,hR⟩:=exE (uQ s k a);rw[←hR];have H:=hidL h;have HK:=hidL hk;have HG:=hidL hG;obtain⟨vc,vr,hrow,hbx,hcs,hrs,hnS,hnR,hSw,hbg⟩:=h;obtain⟨x1,x2,x3⟩:=bY w (fQ a) [O 0,O 0,E0,Z0] 35 32;unfold fQ at x1 x2 x3 ⊢;have hgw:=hbx.lt;obtain⟨AC,cc,rfl,-,-⟩:=hcs.form;obtain⟨AR,cr,rfl,-⟩:=hrs.form;obtain⟨gr,rfl,hbr,hgrl⟩:=hrs.qR (by omega);obtain rfl:row=some gr:=hrow.symm;obtain⟨own,hown⟩:=exE ((fH s.rs k).commit:Int);obtain⟨pol,hpol⟩:=exE ((fH s.rs k).policy:Int);have Hwr:=hidL (hk.refs _ (List.getElem_mem hl));rw[←nD hl,←hown,←hpol] at Hwr;have HA:=hidL (fun W (h:Below w.heap.size w W)=>by
  obtain⟨cs,-,hcr,hly⟩:=(hrs.below iG.fair h).cells hl;obtain rfl:cs=aN s.rs[k]:=hcr;have q1:=hly.at_ 1 rfl;have q2:=hly.at_ 2 rfl;rw[←nD hl] at q1 q2;rw[←hown] at q1;rw[←hpol] at q2;have hb:=hbx.below h hgw;exact(⟨hb.cell 0,q1,q2,hb.cell 1,Nat.lt_of_lt_of_le hgw h.size,Nat.lt_of_lt_of_le hgrl h.size⟩:LL W g 0 (.slice AC s.cs.length cc)∧LL W gr (k*3+1) (O own)∧LL W gr (k*3+2) (O pol)∧LL W g 1 (.slice (some ⟨gr,0,none⟩) s.rs.length cr)∧g<W.heap.size∧gr<W.heap.size))
 have Hcs:=hidL hcs;have Hrs:=hidL hrs;have Hbx:=hidL hbx;have hkl:(k:Int)<s.rs.length:=by omega
 have hR2:=hR;rw[uQ,←hown] at hR2;have HR:=hidL hR2;have Hown:=hidL hown;have Hpol:=hidL hpol;clear hR hR2 hk hG hbx hcs hrs hown hpol;go_enter func26,ntmps26;go_upto_region 1 with fail;generalize World.alloc (World.alloc w _) _=W0 at x1 x2 x3 ⊢;obtain⟨g0,c1,c2,g1,hgl,hlr⟩:=HA.out _ x3;have hc0:=x1.c 0 rfl;have hc1:=x1.c 1 rfl;have hc2:=x1.c 2 rfl;have hc4:=x1.c 4 rfl;have hwl:=x1.lt;go_upto_region 3 with fail
 by_cases h6:a.kind=6
 ·--[SIX
  have hd6:(a.kind==6)=true:=by simpa using h6
  have hr:R=(oJ own,⟨s.cs,pV s.rs k,s.acts⟩):=by rw[HR.out,if_pos h6]
  subst hr;have e2:IntKind.i64.wrap ((k:Int)+1)=(k:Int)+1:=IntWalk.i64_in _ (by have:=HK.out.most.2.1;omega);have HD:=hidL (Rj base k _ s.rs W0 (Hrs.out.below iG.fair x3) hl (by have:=HK.out.most.2.1;omega));clear h6;go_wp2_with fail;refine HD.out.mono ?_;rintro e w2 ⟨v2,rfl,ho2,hg2,hv2⟩;obtain⟨A2,m2,rfl,-⟩:=ho2.form;have hne:gr≠g:=H.out.ne;have y2:=(Hbx.out.below x3 hgw).grown hg2 (fun e=>hne (Option.some.inj e));have d1:=y2.c 1 rfl;have df:=y2.frozen 1;have dl:=y2.lt;have x22:=(x2.grown hg2 (fun e=>by have e:gr=w.heap.size+1:=Option.some.inj e;omega)).far (p:=⟨g,1,none⟩) (show w.heap.size+1≠g by omega) (.slice A2 (pV s.rs k).length m2);obtain⟨hN,hT⟩:=H.out.setR x3 hg2 ho2 (.inl hv2);rw[hv2] at hN;change bS S (some gr) _ _ _ _ at hN;clear g0 c1 c2 g1 hgl hlr hc0 hc1 hc2 hc4 hwl;clear y2;go_upto_region 6 with fail;generalize World.setCell w2 _ _=w3 at hN hT x22 ⊢;obtain⟨r0,r1,r2,r3,f0,f1,f2,f3,lr⟩:=x22.rr4;clear d1 df dl;go_wp2_with fail;change bodyPost _ _ _ _ _ (setCells _ (w.heap.size+1) 0 [O 0,O own,E0,Z0]);obtain⟨k2,k3⟩:=eD.put (S:=S) (cs:=[O 0,O own,E0,Z0]) H.out hN hT (fun _ h=>.inl h) (Nat.le_succ _) (fun h=>by have:=hSw _ h;omega) hgw x22 rfl jd.flat;exact bodyPost_ret (change_results k2 rfl) rfl k3
 have hd6:(a.kind==6)=false:=by simpa using h6
 have hR6:=HR.out;rw[if_neg h6] at hR6
 by_cases h3:a.kind=3
 ·--[THREE
  have hd3:(a.kind==3)=true:=by simpa using h3
  rw[if_pos h3] at hR6;have HR6:=hidL hR6;clear h6 h3 hR6;go_upto_region 8 with fail
  by_cases hn0:a.n<0
  ·have hn1:decide (a.n<0)=true:=by simpa using hn0
   have hr:R=(dY 2,s):=by rw[HR6.out,if_pos (.inl hn0)]
   subst hr;clear hn0
   (obtain⟨r0,r1,r2,r3,f0,f1,f2,f3,lr⟩:=x2.rr4)
   go_wp2_with fail;change bodyPost _ _ _ _ _ (setCells _ (w.heap.size+1) 0 [O 2,O 0,E0,Z0]);obtain⟨k2,k3⟩:=eD.put (S:=S) (cs:=[O 2,O 0,E0,Z0]) H.out (H.out.below x3) (Touch.below x3) (fun _ h=>.inl h) (Nat.le_succ _) (fun h=>by have:=hSw _ h;omega) hgw x2 rfl jd.flat;exact bodyPost_ret (change_results k2 rfl) rfl k3
  have hn1:decide (a.n<0)=false:=by simpa using hn0
  by_cases hn3:3<a.n
  ·have hn4:decide (a.n > 3)=true:=by simpa using hn3
   have hr:R=(dY 2,s):=by rw[HR6.out,if_pos (.inr hn3)]
   subst hr;clear hn0 hn3
   (obtain⟨r0,r1,r2,r3,f0,f1,f2,f3,lr⟩:=x2.rr4)
   go_wp2_with fail;change bodyPost _ _ _ _ _ (setCells _ (w.heap.size+1) 0 [O 2,O 0,E0,Z0]);obtain⟨k2,k3⟩:=eD.put (S:=S) (cs:=[O 2,O 0,E0,Z0]) H.out (H.out.below x3) (Touch.below x3) (fun _ h=>.inl h) (Nat.le_succ _) (fun h=>by have:=hSw _ h;omega) hgw x2 rfl jd.flat;exact bodyPost_ret (change_results k2 rfl) rfl k3
  have hn4:decide (a.n > 3)=false:=by simpa using hn3
  have hnp:0≤a.n∧a.n≤3:=by omega
  have Hnp:=hidL hnp;have hR7:=HR6.out;rw[if_neg (by omega)] at hR7;have HR7:=hidL hR7;clear hn0 hn3 hnp hR7;go_upto_region 10 with fail;have hS:(fun W'=>LL W' w.heap.size 1 (O a.n)∧LL W' g 0 (.slice AC s.cs.length cc)∧LL W' gr (k*3+1) (O own)∧LL W' gr (k*3+2) (O pol)) W0.drew:=⟨hc1,g0,c1,c2⟩;have hw:=au (Below.here W0);have hHS:=hidL (fun W (h:Below W0.heap.size W0 W)=>show (fun W'=>LL W' w.heap.size 1 (O a.n)∧LL W' g 0 (.slice AC s.cs.length cc)∧LL W' gr (k*3+1) (O own)∧LL W' gr (k*3+2) (O pol)) W from⟨(h.cell (p:=⟨w.heap.size,1,none⟩) hwl).trans hc1,(h.cell (p:=⟨g,0,none⟩) hgl).trans g0,(h.cell (p:=⟨gr,k*3+1,none⟩) hlr).trans c1,(h.cell (p:=⟨gr,k*3+2,none⟩) hlr).trans c2⟩);clear g0 c1 c2 g1 hgl hlr hc0 hc1 hc2 hc4 hwl;refine aJ (fun W'=>LL W' w.heap.size 1 (O a.n)∧LL W' g 0 (.slice AC s.cs.length cc)∧LL W' gr (k*3+1) (O own)∧LL W' gr (k*3+2) (O pol)) (fun _=>true) (by kernel_rfl) ?_;generalize W0.drew=Vd at hS hw ⊢;apply ppP 0;apply ppP 1;apply ppP 2;apply tkP 3 hS;apply ppP 4;apply ppP 5;apply ppP 6;apply tkP 7 hS;apply ppP 8;apply tkP 9 hS
  try simp only[pu]
  refine ang 10 (fun K hK=>?_);go_simp;refine(Iz S _ s.cs own a.n Vd ((RSl.fair dw.fair).below Hcs.out (aa x3 hw x3.size)) (by have:=HK.out.most.1;omega) Hnp.out (fun c h=>iA (HK.out.books c h)) (HG.out Vd ((aa x3 hw x3.size).mono hb)).1).mono ?_;obtain⟨F,hF⟩:=exE (ji s.cs own a.n);rw[←hF];have HF:=hidL hF;clear hF;rintro e w5 ⟨vf,rfl,hrf,hb5⟩;obtain⟨AF,kF,rfl,-,-⟩:=hrf.form;have hw5:=aa hw hb5 hw.size;replace hS:=hHS.out _ hw5;have hvs:W0.heap.size≤Vd.heap.size:=hw.size;have hvx:w.heap.size+1<W0.heap.size:=x2.lt;have hrf2:=(RSl.fair aU.fair).mono hrf (T:=fun y=>w.heap.size≤y∧y≠w.heap.size+1) (fun y h _=>by have h:Vd.heap.size≤y:=h;exact⟨by omega,by omega⟩);refine hK.out _ _ (fun _ _=>hS) ?_
  try simp only[pu]
  apply ppP 11
  try simp only[pu]
  refine anf ?_ _;clear hS hHS hvs hvx hrf;replace x3:=aa x3 hw5 x3.size;replace x1:=x1.below hw5 x1.lt;replace x2:=x2.below hw5 x2.lt;clear hw5 hb5 hw
  by_cases hF:0<F.length
  ·have hFi:decide (0<F.length)=true:=by simpa using hF
   have hF9:F≠[]:=fun e=>by rw[e] at hF;simp at hF
   have hr:R=(⟨8,0,⟨#[]⟩,F⟩,s):=by rw[HR7.out,←HF.out,if_pos hF9]
   subst hr;obtain⟨r0,r1,r2,r3,f0,f1,f2,f3,lr⟩:=x2.rr4;clear hF hF9;go_wp2_with fail;change bodyPost _ _ _ _ _ (setCells _ (w.heap.size+1) 0 [O 8,O 0,E0,.slice AF F.length kF]);obtain⟨k2,k3⟩:=eD.put (S:=S) (cs:=[O 8,O 0,E0,.slice AF F.length kF]) (r:=⟨8,0,⟨#[]⟩,F⟩) H.out (H.out.below x3) (Touch.below x3) (fun _ h=>.inl h) (Nat.le_succ _) (fun h=>by have:=hSw _ h;omega) hgw x2 rfl ⟨_,rfl,hrf2⟩;exact bodyPost_ret (change_results k2 rfl) rfl k3
  ·have hFi:decide (0<F.length)=false:=by simpa using hF
   have hF0:F=[]:=List.eq_nil_of_length_eq_zero (by omega);have hr:R=(oJ own,⟨s.cs,Br s.rs k a.n,s.acts⟩):=by rw[HR7.out,←HF.out,if_neg (by simp[hF0])];rfl
   subst hr;clear hF hF0;obtain⟨g0,c1,c2,g1,hgl,hlr⟩:=HA.out _ x3;have hc0:=x1.c 0 rfl;have hc1:=x1.c 1 rfl;have hc2:=x1.c 2 rfl;have hc4:=x1.c 4 rfl;have hwl:=x1.lt;have hff:=(Hrs.out.below iG.fair x3).frozen (k*3+2);have hne:gr≠g:=H.out.ne;obtain⟨r0,r1,r2,r3,f0,f1,f2,f3,lr⟩:=x2.rr4;go_wp2_with fail;change bodyPost _ _ _ _ _ (setCells _ (w.heap.size+1) 0 [O 0,O own,E0,Z0]);obtain⟨k2,k3⟩:=eD.put (S:=S) (cs:=[O 0,O own,E0,Z0]) H.out ((H.out.below x3).amF (u:=O a.n) (rs':=Br s.rs k a.n) (by simp[Br]) (show k*3+2<s.rs.length*3 by omega) (Vr a.n s.rs k hl)) ((Touch.below x3).setCell (p:=⟨gr,k*3+2,none⟩) (.inr (.inl rfl)) _) (fun _ h=>.inl h) (Nat.le_succ _) (fun h=>by have:=hSw _ h;omega) hgw (x2.far (p:=⟨gr,k*3+2,none⟩) (show w.heap.size+1≠gr by omega) _) rfl jd.flat;exact bodyPost_ret (change_results k2 rfl) rfl k3
 have hd3:(a.kind==3)=false:=by simpa using h3
 rw[if_neg h3] at hR6;have HR6:=hidL hR6;clear h6 h3 hR6;go_upto_region 15 with fail
 by_cases ho:own=a.n
 case neg =>
  have hn1:(own != a.n)=true:=by simpa using ho
  have hn2:(own==a.n)=false:=by simpa using ho
  have hr:R=(dY 10,s):=by rw[HR6.out,if_pos ho]
  subst hr;clear ho;have hS:(fun W'=>LL W' w.heap.size 1 (O a.n)∧LL W' g 0 (.slice AC s.cs.length cc)∧LL W' gr (k*3+1) (O own)∧LL W' gr (k*3+2) (O pol)) W0.drew:=⟨hc1,g0,c1,c2⟩;have hw:=au (Below.here W0);have hHS:=hidL (fun W (h:Below W0.heap.size W0 W)=>show (fun W'=>LL W' w.heap.size 1 (O a.n)∧LL W' g 0 (.slice AC s.cs.length cc)∧LL W' gr (k*3+1) (O own)∧LL W' gr (k*3+2) (O pol)) W from⟨(h.cell (p:=⟨w.heap.size,1,none⟩) hwl).trans hc1,(h.cell (p:=⟨g,0,none⟩) hgl).trans g0,(h.cell (p:=⟨gr,k*3+1,none⟩) hlr).trans c1,(h.cell (p:=⟨gr,k*3+2,none⟩) hlr).trans c2⟩);clear g0 c1 c2 g1 hgl hlr hc0 hc1 hc2 hc4 hwl;refine aJ (fun W'=>LL W' w.heap.size 1 (O a.n)∧LL W' g 0 (.slice AC s.cs.length cc)∧LL W' gr (k*3+1) (O own)∧LL W' gr (k*3+2) (O pol)) (fun _=>true) (by kernel_rfl) ?_;generalize W0.drew=Vd at hS hw ⊢;apply ppP 0;apply ppP 1;apply ppP 2;apply tkP 3 hS;apply ppP 4;apply tkP 5 hS;apply ppP 6
  try simp only[pu]
  refine anf ?_ _;clear hS hHS;replace x1:=x1.below hw x1.lt;replace x2:=x2.below hw x2.lt;replace x3:=aa x3 hw x3.size;clear hw
  (obtain⟨r0,r1,r2,r3,f0,f1,f2,f3,lr⟩:=x2.rr4)
  go_wp2_with fail;change bodyPost _ _ _ _ _ (setCells _ (w.heap.size+1) 0 [O 10,O 0,E0,Z0]);obtain⟨k2,k3⟩:=eD.put (S:=S) (cs:=[O 10,O 0,E0,Z0]) H.out (H.out.below x3) (Touch.below x3) (fun _ h=>.inl h) (Nat.le_succ _) (fun h=>by have:=hSw _ h;omega) hgw x2 rfl jd.flat;exact bodyPost_ret (change_results k2 rfl) rfl k3
 have hn1:(own != a.n)=false:=by simpa using ho
 have hn2:(own==a.n)=true:=by simpa using ho
 have hR7:=HR6.out;rw[if_neg (by simp[ho])] at hR7;have HR7:=hidL hR7;clear ho hR7;have hS:(fun W'=>LL W' w.heap.size 1 (O a.n)∧LL W' g 0 (.slice AC s.cs.length cc)∧LL W' gr (k*3+1) (O own)∧LL W' gr (k*3+2) (O pol)) W0.drew:=⟨hc1,g0,c1,c2⟩;have hw:=au (Below.here W0);have hHS:=hidL (fun W (h:Below W0.heap.size W0 W)=>show (fun W'=>LL W' w.heap.size 1 (O a.n)∧LL W' g 0 (.slice AC s.cs.length cc)∧LL W' gr (k*3+1) (O own)∧LL W' gr (k*3+2) (O pol)) W from⟨(h.cell (p:=⟨w.heap.size,1,none⟩) hwl).trans hc1,(h.cell (p:=⟨g,0,none⟩) hgl).trans g0,(h.cell (p:=⟨gr,k*3+1,none⟩) hlr).trans c1,(h.cell (p:=⟨gr,k*3+2,none⟩) hlr).trans c2⟩);clear g0 c1 c2 g1 hgl hlr hc0 hc1 hc2 hc4 hwl;refine aJ (fun W'=>LL W' w.heap.size 1 (O a.n)∧LL W' g 0 (.slice AC s.cs.length cc)∧LL W' gr (k*3+1) (O own)∧LL W' gr (k*3+2) (O pol)) (fun _=>true) (by kernel_rfl) ?_;generalize W0.drew=Vd at hS hw ⊢;apply ppP 0;apply ppP 1;apply ppP 2;apply tkP 3 hS;apply ppP 4;apply tkP 5 hS;apply ppP 6
 try simp only[pu]
 refine anf ?_ _;clear hS hHS;replace x1:=x1.below hw x1.lt;replace x2:=x2.below hw x2.lt;replace x3:=aa x3 hw x3.size;clear hw;generalize hVV:Vd=V at x1 x2 x3 ⊢;clear hVV;obtain⟨g0,c1,c2,g1,hgl,hlr⟩:=HA.out _ x3;have hc0:=x1.c 0 rfl;have hc1:=x1.c 1 rfl;have hc2:=x1.c 2 rfl;have hc4:=x1.c 4 rfl;have hwl:=x1.lt
 by_cases h4:a.kind=4
 case' neg =>
  have hd4:(a.kind==4)=false:=by simpa using h4
  obtain⟨tt,hto⟩:=exE (a.m:Int);have HRm:Hid (R=moveF s k tt):=by show _=_;rw[HR7.out,if_neg h4,hto]
  rw[←hto] at hc2;clear hto h4;go_upto_region 27 with fail;clear g0 c1 c2 g1 hgl hlr hc0 hc1 hc2 hc4 hwl
 case' pos =>
  have hd4:(a.kind==4)=true:=by simpa using h4
  have hR8:=HR7.out;rw[if_pos h4] at hR8;obtain⟨P,hP⟩:=exE (fB s.rs a.other);obtain⟨B,hB⟩:=exE (qJ s.rs a.other);have hfd:=FH a.other (H.out.below x3) HK.out.sorted (by have:=HK.out.most.2.1;omega);rw[←hP,←hB] at hfd hR8;have HFD:=hidL hfd;have HR8:=hidL hR8;have HP:=hidL hP;have HB:=hidL hB;clear h4 hfd hR8 hP hB;go_wp2_with fail;refine HFD.out.mono ?_;rintro e w5 ⟨rfl,hb5⟩;replace x3:=aa x3 hb5 x3.size;replace x1:=x1.below hb5 x1.lt;replace x2:=x2.below hb5 x2.lt;clear g0 c1 c2 g1 hgl hlr hc0 hc1 hc2 hc4 hwl;clear hb5 HFD;obtain⟨g0,c1,c2,g1,hgl,hlr⟩:=HA.out _ x3;have hc0:=x1.c 0 rfl;have hc1:=x1.c 1 rfl;have hc2:=x1.c 2 rfl;have hc4:=x1.c 4 rfl;have hwl:=x1.lt
  by_cases hBt:B=true
  case neg =>
   have hBf:B=false:=by simpa using hBt
   have hr:R=(dY 3,s):=by rw[HR8.out,if_pos hBf]
   subst hr;subst hBf
   (obtain⟨r0,r1,r2,r3,f0,f1,f2,f3,lr⟩:=x2.rr4)
   go_wp2_with fail;change bodyPost _ _ _ _ _ (setCells _ (w.heap.size+1) 0 [O 3,O 0,E0,Z0]);obtain⟨k2,k3⟩:=eD.put (S:=S) (cs:=[O 3,O 0,E0,Z0]) H.out (H.out.below x3) (Touch.below x3) (fun _ h=>.inl h) (Nat.le_succ _) (fun h=>by have:=hSw _ h;omega) hgw x2 rfl jd.flat;exact bodyPost_ret (change_results k2 rfl) rfl k3
  have hR9:=HR8.out;rw[if_neg (by simp[hBt])] at hR9;have hPl:P<s.rs.length:=by rw[HP.out];exact Fe (HB.out.symm.trans hBt)
  obtain⟨tt,hto⟩:=exE ((fH s.rs P).commit:Int);rw[←hto] at hR9;have Hto:=hidL (show 0≤tt∧tt<s.cs.length by rw[hto,nD hPl];have:=HK.out.refs _ (List.getElem_mem hPl);exact⟨this.1,this.2.1⟩);have HR9:=hidL hR9;obtain⟨cs,-,hcr,hly⟩:=(Hrs.out.below iG.fair x3).cells hPl;obtain rfl:cs=aN s.rs[P]:=hcr;have qP:=hly.at_ 1 rfl;rw[←nD hPl,←hto] at qP;have hPi:(P:Int)<s.rs.length:=by omega
  subst hBt;clear hR9 hly hto;go_upto_region 23 with fail;clear qP;have hS:(fun W'=>LL W' w.heap.size 1 (O a.n)∧LL W' g 0 (.slice AC s.cs.length cc)∧LL W' gr (k*3+1) (O own)∧LL W' gr (k*3+2) (O pol)) w5.drew:=⟨hc1,g0,c1,c2⟩;have hw:=au (Below.here w5);have hHS:=hidL (fun W (h:Below w5.heap.size w5 W)=>show (fun W'=>LL W' w.heap.size 1 (O a.n)∧LL W' g 0 (.slice AC s.cs.length cc)∧LL W' gr (k*3+1) (O own)∧LL W' gr (k*3+2) (O pol)) W from⟨(h.cell (p:=⟨w.heap.size,1,none⟩) hwl).trans hc1,(h.cell (p:=⟨g,0,none⟩) hgl).trans g0,(h.cell (p:=⟨gr,k*3+1,none⟩) hlr).trans c1,(h.cell (p:=⟨gr,k*3+2,none⟩) hlr).trans c2⟩);clear g0 c1 c2 g1 hgl hlr hc0 hc1 hc2 hc4 hwl;refine aJ (fun W'=>LL W' w.heap.size 1 (O a.n)∧LL W' g 0 (.slice AC s.cs.length cc)∧LL W' gr (k*3+1) (O own)∧LL W' gr (k*3+2) (O pol)) (fun _=>true) (by kernel_rfl) ?_;generalize w5.drew=Vd at hS hw ⊢;apply ppP 0;apply ppP 1;apply ppP 2;apply tkP 3 hS;apply ppP 4;apply ppP 5;apply ppP 6;apply tkP 7 hS;apply ppP 9
  try simp only[pu]
  refine ang 8 (fun K hK=>?_);go_simp;refine(xm S _ s.cs own Vd ((RSl.fair dw.fair).below Hcs.out (aa x3 hw x3.size)) (by have:=HK.out.most.1;omega)).mono ?_;rintro e w6 ⟨v1,rfl,-,hr1,hb6⟩;obtain⟨A1,m1,rfl,-,-⟩:=hr1.form;have hw6:=aa hw hb6 hw.size;replace hS:=hHS.out _ hw6;refine hK.out _ _ (fun _ _=>hS) ?_
  try simp only[pu]
  refine ang 10 (fun K hK=>?_);go_simp;refine(zU _ _ (dZ s.cs own) tt w6 hr1).mono ?_;rintro e w7 ⟨rfl,rfl⟩;refine hK.out _ _ (fun _ _=>hS) ?_
  try simp only[pu]
  apply ppP 11
  try simp only[pu]
  refine anf ?_ _;clear hS hHS hr1;replace x3:=aa x3 hw6 x3.size;replace x1:=x1.below hw6 x1.lt;replace x2:=x2.below hw6 x2.lt;clear hw6 hb6 hw;obtain⟨h1,hh1⟩:=exE (dV (dZ s.cs own) tt);have hR10:=HR9.out;rw[←hh1] at hR10 ⊢;have HR10:=hidL hR10;clear hh1 hR10;obtain⟨g0,c1,c2,g1,hgl,hlr⟩:=HA.out _ x3;have hc0:=x1.c 0 rfl;have hc1:=x1.c 1 rfl;have hc2:=x1.c 2 rfl;have hc4:=x1.c 4 rfl;have hwl:=x1.lt
  by_cases h1t:h1=true
  case pos =>
   have hr:R=(oJ own,s):=by rw[HR10.out,if_pos h1t]
   subst hr;subst h1t
   (obtain⟨r0,r1,r2,r3,f0,f1,f2,f3,lr⟩:=x2.rr4)
   go_wp2_with fail;change bodyPost _ _ _ _ _ (setCells _ (w.heap.size+1) 0 [O 0,O own,E0,Z0]);obtain⟨k2,k3⟩:=eD.put (S:=S) (cs:=[O 0,O own,E0,Z0]) H.out (H.out.below x3) (Touch.below x3) (fun _ h=>.inl h) (Nat.le_succ _) (fun h=>by have:=hSw _ h;omega) hgw x2 rfl jd.flat;exact bodyPost_ret (change_results k2 rfl) rfl k3
  have h1f:h1=false:=by simpa using h1t
  have hR11:=HR10.out;rw[if_neg h1t] at hR11;have HR11:=hidL hR11;subst h1f;clear h1t hR11;go_upto_region 25 with fail;have hS:(fun W'=>LL W' w.heap.size 1 (O a.n)∧LL W' g 0 (.slice AC s.cs.length cc)∧LL W' gr (k*3+1) (O own)∧LL W' gr (k*3+2) (O pol)) w7.drew:=⟨hc1,g0,c1,c2⟩;have hw:=au (Below.here w7);have hHS:=hidL (fun W (h:Below w7.heap.size w7 W)=>show (fun W'=>LL W' w.heap.size 1 (O a.n)∧LL W' g 0 (.slice AC s.cs.length cc)∧LL W' gr (k*3+1) (O own)∧LL W' gr (k*3+2) (O pol)) W from⟨(h.cell (p:=⟨w.heap.size,1,none⟩) hwl).trans hc1,(h.cell (p:=⟨g,0,none⟩) hgl).trans g0,(h.cell (p:=⟨gr,k*3+1,none⟩) hlr).trans c1,(h.cell (p:=⟨gr,k*3+2,none⟩) hlr).trans c2⟩);clear g0 c1 c2 g1 hgl hlr hc0 hc1 hc2 hc4 hwl;refine aJ (fun W'=>LL W' w.heap.size 1 (O a.n)∧LL W' g 0 (.slice AC s.cs.length cc)∧LL W' gr (k*3+1) (O own)∧LL W' gr (k*3+2) (O pol)) (fun _=>true) (by kernel_rfl) ?_;generalize w7.drew=Vd at hS hw ⊢;apply ppP 0;apply ppP 1;apply ppP 2;apply tkP 3 hS;apply ppP 4;apply ppP 6;apply ppP 7;apply ppP 8;apply tkP 9 hS
  try simp only[pu]
  refine ang 5 (fun K hK=>?_);go_simp;refine(xm S _ s.cs tt Vd ((RSl.fair dw.fair).below Hcs.out (aa x3 hw x3.size)) (by have:=HK.out.most.1;omega)).mono ?_;rintro e w6 ⟨v1,rfl,-,hr1,hb6⟩;obtain⟨A1,m1,rfl,-,-⟩:=hr1.form;have hw6:=aa hw hb6 hw.size;replace hS:=hHS.out _ hw6;refine hK.out _ _ (fun _ _=>hS) ?_
  try simp only[pu]
  refine ang 10 (fun K hK=>?_);go_simp;refine(zU _ _ (dZ s.cs tt) own w6 hr1).mono ?_;rintro e w8 ⟨rfl,rfl⟩;refine hK.out _ _ (fun _ _=>hS) ?_
  try simp only[pu]
  apply ppP 11;apply ppP 12
  try simp only[pu]
  refine anf ?_ _;clear hS hHS hr1;replace x3:=aa x3 hw6 x3.size;replace x1:=x1.below hw6 x1.lt;replace x2:=x2.below hw6 x2.lt;clear hw6 hb6 hw;obtain⟨h2,hh2⟩:=exE (dV (dZ s.cs tt) own);have hR12:=HR11.out;rw[←hh2] at hR12 ⊢;have HR12:=hidL hR12;clear hh2 hR12;obtain⟨g0,c1,c2,g1,hgl,hlr⟩:=HA.out _ x3;have hc0:=x1.c 0 rfl;have hc1:=x1.c 1 rfl;have hc2:=x1.c 2 rfl;have hc4:=x1.c 4 rfl;have hwl:=x1.lt
  by_cases h2t:h2=true
  case neg =>
   have h2f:h2=false:=by simpa using h2t
   have hr:R=zC s k tt:=by rw[HR12.out,if_pos h2f]
   have hmg:=agq k tt (H.out.below x3) HK.out hl Hto.out (Nat.le_trans hb x3.size) (HG.out.below (x3.mono hb));rw[←hr] at hmg;have HMG:=hidL hmg;subst h2f;clear hmg hr h2t;go_wp2_with fail;refine HMG.out.mono ?_;intro e w9 hp;obtain⟨A8,k8,rfl⟩:=hp.form;obtain⟨k1,k2,k3⟩:=hp.stored (S:=S) (Touch.below x3) (fun y h=>.inl h) (.inl rfl) (Nat.le_succ _) x2 rfl (fun h=>by have:=hSw _ h;omega) (fun e=>by have:=Option.some.inj e;omega) (by omega);obtain⟨r0,r1,r2,r3,f0,f1,f2,f3,lr⟩:=k1.rr4;clear g0 c1 c2 g1 hgl hlr hc0 hc1 hc2 hc4 hwl;go_wp2_with fail;exact bodyPost_ret (change_results k2 rfl) rfl k3
  have HRm:Hid (R=moveF s k tt):=by show _=_;rw[HR12.out,if_neg (by simp[h2t])]
  subst h2t;go_upto_region 27 with fail;clear g0 c1 c2 g1 hgl hlr hc0 hc1 hc2 hc4 hwl;generalize w8=V at x1 x2 x3 ⊢
 all_goals
  have hR20:=HRm.out;rw[moveF,←Hpol.out] at hR20;have HR20:=hidL hR20;clear hR20;obtain⟨g0,c1,c2,g1,hgl,hlr⟩:=HA.out _ x3;have hc0:=x1.c 0 rfl;have hc1:=x1.c 1 rfl;have hc2:=x1.c 2 rfl;have hc4:=x1.c 4 rfl;have hwl:=x1.lt
  by_cases t0:tt<0
  ·have hn5:decide (tt<0)=true:=by simpa using t0
   have hr:R=(dY 3,s):=by rw[HR20.out,if_pos (by simp[isC];omega)]
   subst hr;clear t0
   (obtain⟨r0,r1,r2,r3,f0,f1,f2,f3,lr⟩:=x2.rr4)
   go_wp2_with fail;change bodyPost _ _ _ _ _ (setCells _ (w.heap.size+1) 0 [O 3,O 0,E0,Z0]);obtain⟨k2,k3⟩:=eD.put (S:=S) (cs:=[O 3,O 0,E0,Z0]) H.out (H.out.below x3) (Touch.below x3) (fun _ h=>.inl h) (Nat.le_succ _) (fun h=>by have:=hSw _ h;omega) hgw x2 rfl jd.flat;exact bodyPost_ret (change_results k2 rfl) rfl k3
  have hn5:decide (tt<0)=false:=by simpa using t0
  by_cases t1:(s.cs.length:Int)≤tt
  ·have hn6:decide (tt≥(s.cs.length:Int))=true:=by simpa using t1
   have hr:R=(dY 3,s):=by rw[HR20.out,if_pos (by simp[isC];omega)]
   subst hr;clear t0 t1
   (obtain⟨r0,r1,r2,r3,f0,f1,f2,f3,lr⟩:=x2.rr4)
   go_wp2_with fail;change bodyPost _ _ _ _ _ (setCells _ (w.heap.size+1) 0 [O 3,O 0,E0,Z0]);obtain⟨k2,k3⟩:=eD.put (S:=S) (cs:=[O 3,O 0,E0,Z0]) H.out (H.out.below x3) (Touch.below x3) (fun _ h=>.inl h) (Nat.le_succ _) (fun h=>by have:=hSw _ h;omega) hgw x2 rfl jd.flat;exact bodyPost_ret (change_results k2 rfl) rfl k3
  have hn6:decide (tt≥(s.cs.length:Int))=false:=by simpa using t1
  have hR21:=HR20.out;rw[if_neg (by simp[isC];omega)] at hR21;have HR21:=hidL hR21;clear t0 t1 hR21;go_upto_region 29 with fail;have hS:(fun W'=>LL W' w.heap.size 1 (O a.n)∧LL W' g 0 (.slice AC s.cs.length cc)∧LL W' gr (k*3+1) (O own)∧LL W' gr (k*3+2) (O pol)) V.drew:=⟨hc1,g0,c1,c2⟩;have hw:=au (Below.here V);have hHS:=hidL (fun W (h:Below V.heap.size V W)=>show (fun W'=>LL W' w.heap.size 1 (O a.n)∧LL W' g 0 (.slice AC s.cs.length cc)∧LL W' gr (k*3+1) (O own)∧LL W' gr (k*3+2) (O pol)) W from⟨(h.cell (p:=⟨w.heap.size,1,none⟩) hwl).trans hc1,(h.cell (p:=⟨g,0,none⟩) hgl).trans g0,(h.cell (p:=⟨gr,k*3+1,none⟩) hlr).trans c1,(h.cell (p:=⟨gr,k*3+2,none⟩) hlr).trans c2⟩);clear g0 c1 c2 g1 hgl hlr hc0 hc1 hc2 hc4 hwl;refine aJ (fun W'=>LL W' w.heap.size 1 (O a.n)∧LL W' g 0 (.slice AC s.cs.length cc)∧LL W' gr (k*3+1) (O own)∧LL W' gr (k*3+2) (O pol)) (fun _=>true) (by kernel_rfl) ?_;generalize V.drew=Vd at hS hw ⊢;apply ppP 0;apply ppP 1;apply ppP 2;apply tkP 3 hS;apply ppP 4;apply ppP 5;apply ppP 6;apply ppP 7;apply tkP 8 hS
  try simp only[pu]
  refine ang 9 (fun K hK=>?_);go_simp;refine(Iz S _ s.cs tt pol Vd ((RSl.fair dw.fair).below Hcs.out (aa x3 hw x3.size)) (by have:=HK.out.most.1;omega) ⟨Hwr.out.2.2.1,Hwr.out.2.2.2.1⟩ (fun c h=>iA (HK.out.books c h)) (HG.out Vd ((aa x3 hw x3.size).mono hb)).1).mono ?_;obtain⟨F,hF⟩:=exE (ji s.cs tt pol);rw[←hF];have HF:=hidL hF;clear hF;rintro e w5 ⟨vf,rfl,hrf,hb5⟩;obtain⟨AF,kF,rfl,-,-⟩:=hrf.form;have hw5:=aa hw hb5 hw.size;replace hS:=hHS.out _ hw5;have hvs:V.heap.size≤Vd.heap.size:=hw.size;have hvx:w.heap.size+1<V.heap.size:=x2.lt;have hrf2:=(RSl.fair aU.fair).mono hrf (T:=fun y=>w.heap.size≤y∧y≠w.heap.size+1) (fun y h _=>by have h:Vd.heap.size≤y:=h;exact⟨by omega,by omega⟩);refine hK.out _ _ (fun _ _=>hS) ?_
  try simp only[pu]
  apply ppP 10
  try simp only[pu]
  refine anf ?_ _;clear hS hHS hvs hvx hrf;replace x3:=aa x3 hw5 x3.size;replace x1:=x1.below hw5 x1.lt;replace x2:=x2.below hw5 x2.lt;clear hw5 hb5 hw
  by_cases hF:0<F.length
  ·have hFi:decide (0<F.length)=true:=by simpa using hF
   have hF9:F≠[]:=fun e=>by rw[e] at hF;simp at hF
   have hr:R=(⟨8,0,⟨#[]⟩,F⟩,s):=by rw[HR21.out,←HF.out,if_pos hF9]
   subst hr;obtain⟨r0,r1,r2,r3,f0,f1,f2,f3,lr⟩:=x2.rr4;clear hF hF9;go_wp2_with fail;change bodyPost _ _ _ _ _ (setCells _ (w.heap.size+1) 0 [O 8,O 0,E0,.slice AF F.length kF]);obtain⟨k2,k3⟩:=eD.put (S:=S) (cs:=[O 8,O 0,E0,.slice AF F.length kF]) (r:=⟨8,0,⟨#[]⟩,F⟩) H.out (H.out.below x3) (Touch.below x3) (fun _ h=>.inl h) (Nat.le_succ _) (fun h=>by have:=hSw _ h;omega) hgw x2 rfl ⟨_,rfl,hrf2⟩;exact bodyPost_ret (change_results k2 rfl) rfl k3
  ·have hFi:decide (0<F.length)=false:=by simpa using hF
   have hF0:F=[]:=List.eq_nil_of_length_eq_zero (by omega);have hr:R=(oJ tt,⟨s.cs,rF s.rs k tt,s.acts⟩):=by rw[HR21.out,←HF.out,if_neg (by simp[hF0])]
   subst hr;clear hF hF0;obtain⟨g0,c1,c2,g1,hgl,hlr⟩:=HA.out _ x3;have hc0:=x1.c 0 rfl;have hc1:=x1.c 1 rfl;have hc2:=x1.c 2 rfl;have hc4:=x1.c 4 rfl;have hwl:=x1.lt;have hff:=(Hrs.out.below iG.fair x3).frozen (k*3+1);have hne:gr≠g:=H.out.ne;obtain⟨r0,r1,r2,r3,f0,f1,f2,f3,lr⟩:=x2.rr4;go_wp2_with fail;change bodyPost _ _ _ _ _ (setCells _ (w.heap.size+1) 0 [O 0,O tt,E0,Z0]);obtain⟨k2,k3⟩:=eD.put (S:=S) (cs:=[O 0,O tt,E0,Z0]) H.out ((H.out.below x3).amF (u:=O tt) (rs':=rF s.rs k tt) (by simp[rF]) (show k*3+1<s.rs.length*3 by omega) (LQ tt s.rs k hl)) ((Touch.below x3).setCell (p:=⟨gr,k*3+1,none⟩) (.inr (.inl rfl)) _) (fun _ h=>.inl h) (Nat.le_succ _) (fun h=>by have:=hSw _ h;omega) hgw (x2.far (p:=⟨gr,k*3+1,none⟩) (show w.heap.size+1≠gr by omega) _) rfl jd.flat;exact bodyPost_ret (change_results k2 rfl) rfl k3
end Go.Proofs.YtknnhpkjgnkcdaaGreatDoor
