/- Walks and plain laws. -/
import Derived.Test.YtknnhpkjgnkcdaaGreatDoorRepoc
import Derived.Test.YtknnhpkjgnkcdaaGreatDoorVdec
set_option linter.all false
set_option maxRecDepth 100000
set_option maxHeartbeats 8000000
namespace Go.Proofs.YtknnhpkjgnkcdaaGreatDoor
open Go.Proofs.Tryz
open Go.RowKit
theorem aeu (base:Nat)(w:World)(hb:base≤w.heap.size) :
  Calls prog 12 #[] w (fun e w'=>e=.returned (.pointer (some ⟨w.heap.size,0,none⟩))∧bS NoT none base w' w.heap.size .new∧Below w.heap.size w w'):=by
 obtain⟨x1,x2⟩:=kZ w [Z0,Z0,O 0] 71;go_enter func12,ntmps12;go_wp2;go_ret;exact⟨rfl,⟨_,_,rfl,x1,RSl.dJ,Own.dJ _ _ _ _ _ _,(fun h=>h),(fun _ e=>by cases e),(fun _ h=>False.elim h),hb⟩,x2⟩
theorem Own.flat {α:Type}{enc:α→List Value}{base e sz:Nat}{T:Nat→Prop}{w:World}{v:Value}{xs:List α}(h:Own base e sz (dS enc) T w v xs):Own base e sz (dS enc) NoT w v xs:=by
 obtain⟨css,h1,h2,h3,h4⟩:=h;exact⟨css,h1,h2,fun _ _ h=>h,h4⟩
theorem code_results {W:World}{a:Act}{g:Nat}{c0 c1 c2 c3:Value}(hb:Box W g 32 [c0,c1,c2,c3])(h4:a.tmps.getD 2 undef=.pointer (some ⟨g,0,none⟩)) :
  (results f22 a.tmps).run prog W=.ok (.agg #[c0,c1,c2,c3]) W:=by
 have e0:=hb.c 0 rfl;have e1:=hb.c 1 rfl;have e2:=hb.c 2 rfl;have e3:=hb.c 3 rfl;simp only[Array.getD_eq_getD_getElem?] at h4;simp[results,results22,go_sem,h4,e0,e1,e2,e3]
theorem Au {S:Nat→Prop}{row:Option Nat}{base g:Nat}{w:World}{s:cK}(h:bS S row base w g s)(hn:s.rs.length≤1000) :
  Calls prog 16 #[.pointer (some ⟨g,0,none⟩)] w (fun e w'=>∃ v,e=.returned v∧RSl 3 32 iG (New w) w' [v] s.rs∧Below w.heap.size w w'):=by
 obtain⟨vc,vr,-,h2,-,h4,-⟩:=h;have hr:RSl 3 32 iG (fun _=>True) w [vr] s.rs:=h4.read iG.fair (fun _ _ _=>trivial) (fun _ _=>trivial) (by omega);have hc:=hidL (cloneRef_any _ vr s.rs w hr);have c1:=h2.c 1 rfl;have hl:=h2.lt;obtain⟨A,cap,rfl,-⟩:=h4.form;clear h2 h4 hr;go_enter func16,ntmps16;go_wp2_with fail;refine hc.out.mono ?_;rintro e w1 ⟨v1,rfl,ho,hb⟩;go_wp2;go_ret;refine⟨_,rfl,?_,hb⟩;exact ho.flat.read iG.fair (fun _ h=>False.elim h) (fun k e=>(ho.lt e).1) (by omega)
theorem Qv (n:Int)(w:World):Calls prog 22 #[O n] w (Ret w (.agg #[O n,O 0,E0,Z0])):=by
 obtain⟨x1,x2⟩:=kZ w [O 0,O 0,E0,Z0] 32;go_enter func22,ntmps22;go_wp2_with fail;obtain⟨y1,y2⟩:=kZ w [O n,O 0,E0,Z0] 32;exact bodyPost_ret (code_results y1 rfl) rfl ⟨rfl,y2⟩
theorem read_results {W:World}{a:Act}{g:Nat}{c0 c1 c2 c3:Value}(hb:Box W g 32 [c0,c1,c2,c3])(h4:a.tmps.getD 4 undef=.pointer (some ⟨g,0,none⟩)) :
  (results f28 a.tmps).run prog W=.ok (.agg #[c0,c1,c2,c3]) W:=by
 have e0:=hb.c 0 rfl;have e1:=hb.c 1 rfl;have e2:=hb.c 2 rfl;have e3:=hb.c 3 rfl;simp only[Array.getD_eq_getD_getElem?] at h4;simp[results,results28,go_sem,h4,e0,e1,e2,e3]
theorem ahO {S:Nat→Prop}{row:Option Nat}{base g:Nat}{w:World}{s:cK}(a:mG)(h:bS S row base w g s)(hk:gY s)(ht:a.text.size≤maxLen)(hb:base≤w.heap.size)(hG:qW base w) :
  Calls prog 28 #[.pointer (some ⟨g,0,none⟩),.agg (fQ a).toArray] w (eD S row base g w (CL s a,s)):=by
 obtain⟨R,hR⟩:=exE (CL s a);rw[←hR];have H:=hidL h;have HK:=hidL hk;have HG:=hidL hG;obtain⟨vc,vr,hrow,hbx,hcs,hrs,hnS,hnR,hSw,hbg⟩:=h;obtain⟨x1,x2,x3⟩:=bY w (fQ a) [O 0,O 0,E0,Z0] 35 32;unfold fQ at x1 x2 x3 ⊢;have hgw:=hbx.lt;obtain⟨AC,cc,rfl,-,-⟩:=hcs.form;have HA:=hidL (fun W (h:Below w.heap.size w W)=>(show LL W g 0 (.slice AC s.cs.length cc) from(hbx.below h hgw).cell 0));have Hcs:=hidL hcs;have HR:=hidL hR;clear hR hk hG hbx hcs hrs hrow;go_enter func28,ntmps28;go_upto_region 1 with fail;generalize World.alloc (World.alloc w _) _=W0 at x1 x2 x3 ⊢;have g0:=HA.out _ x3;have hgl:=Nat.lt_of_lt_of_le hgw x3.size;have hc1:=x1.c 1 rfl;have hc2:=x1.c 2 rfl;have hc4:=x1.c 4 rfl;have hc5:=x1.c 5 rfl;have hwl:=x1.lt
 by_cases n0:a.n<0
 ·have d0:decide (a.n<0)=true:=by simpa using n0
  have hr:R=dY 3:=by rw[HR.out,CL,if_pos (.inl (by simp[isC];omega))]
  subst hr;clear n0;have hS:(fun W'=>LL W' w.heap.size 1 (O a.n)∧LL W' w.heap.size 2 (O a.m)∧LL W' g 0 (.slice AC s.cs.length cc)) W0.drew:=⟨hc1,hc2,g0⟩;clear g0 hgl hc1 hc2 hc4 hc5 hwl;refine aJ (fun W'=>LL W' w.heap.size 1 (O a.n)∧LL W' w.heap.size 2 (O a.m)∧LL W' g 0 (.slice AC s.cs.length cc)) (fun _=>true) (by kernel_rfl) ?_;apply ppP 0;apply tkP 1 hS;apply ppP 2;apply ppP 3;apply skP 4 hS;apply skP 5 hS;apply skP 6 hS;apply skP 7 hS;apply skP 8 hS;apply skP 9 hS;apply skP 10 hS;apply skP 11 hS;apply ppP 12;apply ppP 13;apply skP 14 hS;apply skP 15 hS;apply skP 16 hS;apply ppP 17;apply ppP 18;apply skP 19 hS;apply skP 20 hS;apply skP 21 hS;apply skP 22 hS;apply skP 23 hS;apply skP 24 hS;apply skP 25 hS;apply skP 26 hS;apply ppP 27
  try simp only[pu]
  refine anf ?_ _;clear hS;replace x1:=x1.drew;replace x2:=x2.drew;replace x3:=au x3;generalize W0.drew=V at x1 x2 x3 ⊢
  (obtain⟨r0,r1,r2,r3,f0,f1,f2,f3,lr⟩:=x2.rr4)
  go_wp2_with fail;change bodyPost _ _ _ _ _ (setCells _ (w.heap.size+1) 0 [O 3,O 0,E0,Z0]);obtain⟨k2,k3⟩:=eD.put (S:=S) (cs:=[O 3,O 0,E0,Z0]) H.out (H.out.below x3) (Touch.below x3) (fun _ h=>.inl h) (Nat.le_succ _) (fun h=>by have:=hSw _ h;omega) hgw x2 rfl jd.flat;exact bodyPost_ret (read_results k2 rfl) rfl k3
 have d0:decide (a.n<0)=false:=by simpa using n0
 by_cases n1:(s.cs.length:Int)≤a.n
 ·have d1:decide (a.n≥(s.cs.length:Int))=true:=by simpa using n1
  have hr:R=dY 3:=by rw[HR.out,CL,if_pos (.inl (by simp[isC];omega))]
  subst hr;clear n0 n1;have hS:(fun W'=>LL W' w.heap.size 1 (O a.n)∧LL W' w.heap.size 2 (O a.m)∧LL W' g 0 (.slice AC s.cs.length cc)) W0.drew:=⟨hc1,hc2,g0⟩;clear g0 hgl hc1 hc2 hc4 hc5 hwl;refine aJ (fun W'=>LL W' w.heap.size 1 (O a.n)∧LL W' w.heap.size 2 (O a.m)∧LL W' g 0 (.slice AC s.cs.length cc)) (fun _=>true) (by kernel_rfl) ?_;apply ppP 0;apply tkP 1 hS;apply ppP 2;apply ppP 3;apply ppP 4;apply tkP 5 hS;apply ppP 6;apply ppP 7;apply ppP 8;apply tkP 9 hS;apply ppP 10;apply ppP 11;apply ppP 12;apply ppP 13;apply skP 14 hS;apply skP 15 hS;apply skP 16 hS;apply ppP 17;apply ppP 18;apply skP 19 hS;apply skP 20 hS;apply skP 21 hS;apply skP 22 hS;apply skP 23 hS;apply skP 24 hS;apply skP 25 hS;apply skP 26 hS;apply ppP 27
  try simp only[pu]
  refine anf ?_ _;clear hS;replace x1:=x1.drew;replace x2:=x2.drew;replace x3:=au x3;generalize W0.drew=V at x1 x2 x3 ⊢
  (obtain⟨r0,r1,r2,r3,f0,f1,f2,f3,lr⟩:=x2.rr4)
  go_wp2_with fail;change bodyPost _ _ _ _ _ (setCells _ (w.heap.size+1) 0 [O 3,O 0,E0,Z0]);obtain⟨k2,k3⟩:=eD.put (S:=S) (cs:=[O 3,O 0,E0,Z0]) H.out (H.out.below x3) (Touch.below x3) (fun _ h=>.inl h) (Nat.le_succ _) (fun h=>by have:=hSw _ h;omega) hgw x2 rfl jd.flat;exact bodyPost_ret (read_results k2 rfl) rfl k3
 have d1:decide (a.n≥(s.cs.length:Int))=false:=by simpa using n1
 by_cases n2:a.m<0
 ·have d2:decide (a.m<0)=true:=by simpa using n2
  have hr:R=dY 3:=by rw[HR.out,CL,if_pos (.inr (by simp[isC];omega))]
  subst hr;clear n0 n1 n2;have hS:(fun W'=>LL W' w.heap.size 1 (O a.n)∧LL W' w.heap.size 2 (O a.m)∧LL W' g 0 (.slice AC s.cs.length cc)) W0.drew:=⟨hc1,hc2,g0⟩;clear g0 hgl hc1 hc2 hc4 hc5 hwl;refine aJ (fun W'=>LL W' w.heap.size 1 (O a.n)∧LL W' w.heap.size 2 (O a.m)∧LL W' g 0 (.slice AC s.cs.length cc)) (fun _=>true) (by kernel_rfl) ?_;apply ppP 0;apply tkP 1 hS;apply ppP 2;apply ppP 3;apply ppP 4;apply tkP 5 hS;apply ppP 6;apply ppP 7;apply ppP 8;apply tkP 9 hS;apply ppP 10;apply ppP 11;apply ppP 12;apply ppP 13;apply ppP 14;apply tkP 15 hS;apply ppP 16;apply ppP 17;apply ppP 18;apply skP 19 hS;apply skP 20 hS;apply skP 21 hS;apply skP 22 hS;apply skP 23 hS;apply skP 24 hS;apply skP 25 hS;apply skP 26 hS;apply ppP 27
  try simp only[pu]
  refine anf ?_ _;clear hS;replace x1:=x1.drew;replace x2:=x2.drew;replace x3:=au x3;generalize W0.drew=V at x1 x2 x3 ⊢
  (obtain⟨r0,r1,r2,r3,f0,f1,f2,f3,lr⟩:=x2.rr4)
  go_wp2_with fail;change bodyPost _ _ _ _ _ (setCells _ (w.heap.size+1) 0 [O 3,O 0,E0,Z0]);obtain⟨k2,k3⟩:=eD.put (S:=S) (cs:=[O 3,O 0,E0,Z0]) H.out (H.out.below x3) (Touch.below x3) (fun _ h=>.inl h) (Nat.le_succ _) (fun h=>by have:=hSw _ h;omega) hgw x2 rfl jd.flat;exact bodyPost_ret (read_results k2 rfl) rfl k3
 have d2:decide (a.m<0)=false:=by simpa using n2
 by_cases n3:(s.cs.length:Int)≤a.m
 ·have d3:decide (a.m≥(s.cs.length:Int))=true:=by simpa using n3
  have hr:R=dY 3:=by rw[HR.out,CL,if_pos (.inr (by simp[isC];omega))]
  subst hr;clear n0 n1 n2 n3;have hS:(fun W'=>LL W' w.heap.size 1 (O a.n)∧LL W' w.heap.size 2 (O a.m)∧LL W' g 0 (.slice AC s.cs.length cc)) W0.drew:=⟨hc1,hc2,g0⟩;clear g0 hgl hc1 hc2 hc4 hc5 hwl;refine aJ (fun W'=>LL W' w.heap.size 1 (O a.n)∧LL W' w.heap.size 2 (O a.m)∧LL W' g 0 (.slice AC s.cs.length cc)) (fun _=>true) (by kernel_rfl) ?_;apply ppP 0;apply tkP 1 hS;apply ppP 2;apply ppP 3;apply ppP 4;apply tkP 5 hS;apply ppP 6;apply ppP 7;apply ppP 8;apply tkP 9 hS;apply ppP 10;apply ppP 11;apply ppP 12;apply ppP 13;apply ppP 14;apply tkP 15 hS;apply ppP 16;apply ppP 17;apply ppP 18;apply ppP 19;apply tkP 20 hS;apply ppP 21;apply ppP 22;apply ppP 23;apply tkP 24 hS;apply ppP 25;apply ppP 26;apply ppP 27
  try simp only[pu]
  refine anf ?_ _;clear hS;replace x1:=x1.drew;replace x2:=x2.drew;replace x3:=au x3;generalize W0.drew=V at x1 x2 x3 ⊢
  (obtain⟨r0,r1,r2,r3,f0,f1,f2,f3,lr⟩:=x2.rr4)
  go_wp2_with fail;change bodyPost _ _ _ _ _ (setCells _ (w.heap.size+1) 0 [O 3,O 0,E0,Z0]);obtain⟨k2,k3⟩:=eD.put (S:=S) (cs:=[O 3,O 0,E0,Z0]) H.out (H.out.below x3) (Touch.below x3) (fun _ h=>.inl h) (Nat.le_succ _) (fun h=>by have:=hSw _ h;omega) hgw x2 rfl jd.flat;exact bodyPost_ret (read_results k2 rfl) rfl k3
 have d3:decide (a.m≥(s.cs.length:Int))=false:=by simpa using n3
 have hR1:=HR.out;rw[CL,if_neg (by simp[isC];omega)] at hR1;have HR1:=hidL hR1;have Hn:=hidL (show (0≤a.n∧a.n<s.cs.length)∧0≤a.m∧a.m<s.cs.length by omega);clear n0 n1 n2 n3 hR1;have hS:(fun W'=>LL W' w.heap.size 1 (O a.n)∧LL W' w.heap.size 2 (O a.m)∧LL W' g 0 (.slice AC s.cs.length cc)) W0.drew:=⟨hc1,hc2,g0⟩;clear g0 hgl hc1 hc2 hc4 hc5 hwl;refine aJ (fun W'=>LL W' w.heap.size 1 (O a.n)∧LL W' w.heap.size 2 (O a.m)∧LL W' g 0 (.slice AC s.cs.length cc)) (fun _=>true) (by kernel_rfl) ?_;apply ppP 0;apply tkP 1 hS;apply ppP 2;apply ppP 3;apply ppP 4;apply tkP 5 hS;apply ppP 6;apply ppP 7;apply ppP 8;apply tkP 9 hS;apply ppP 10;apply ppP 11;apply ppP 12;apply ppP 13;apply ppP 14;apply tkP 15 hS;apply ppP 16;apply ppP 17;apply ppP 18;apply ppP 19;apply tkP 20 hS;apply ppP 21;apply ppP 22;apply ppP 23;apply tkP 24 hS;apply ppP 25;apply ppP 26;apply ppP 27
 try simp only[pu]
 refine anf ?_ _;clear hS;replace x1:=x1.drew;replace x2:=x2.drew;replace x3:=au x3;generalize W0.drew=V at x1 x2 x3 ⊢;obtain⟨gL,oL,rfl,-,-⟩:=Hcs.out.base (by have:=Hn.out;omega);obtain⟨kn,hkn⟩:∃ k:Nat,a.n=k:=⟨a.n.toNat,by have:=Hn.out;omega⟩;obtain⟨km,hkm⟩:∃ k:Nat,a.m=k:=⟨a.m.toNat,by have:=Hn.out;omega⟩;have hknl:kn<s.cs.length:=by have:=Hn.out;omega
 have hkml:km<s.cs.length:=by have:=Hn.out;omega
 obtain⟨bN,hbN⟩:=exE (s.cs[kn].book);obtain⟨bM,hbM⟩:=exE (s.cs[km].book);obtain⟨PN,pn,hrN,hcN⟩:=AZ Hcs.out hknl;obtain⟨PM,pm,hrM,hcM⟩:=AZ Hcs.out hkml;rw[←hbN] at hrN hcN;rw[←hbM] at hrM hcM;have HgN:=hidL (show aS bN by rw[hbN];exact iA (HK.out.books _ (List.getElem_mem hknl)));have HgM:=hidL (show aS bM by rw[hbM];exact iA (HK.out.books _ (List.getElem_mem hkml)));have hR2:=HR1.out;rw[sw hkn hknl,sw hkm hkml,←hbN,←hbM] at hR2;have HR2:=hidL hR2;have HrN:=hidL hrN;have HrM:=hidL hrM;have HcN:=hidL hcN;have HcM:=hidL hcM;have Hkn:=hidL hkn;have Hkm:=hidL hkm;clear hrN hrM hcN hcM hkn hkm hbN hbM hR2;have hkni:(kn:Int)<s.cs.length:=by omega
 have hkmi:(km:Int)<s.cs.length:=by omega
 go_upto_region 3 with fail;have g0:=HA.out _ x3;have hgl:=Nat.lt_of_lt_of_le hgw x3.size;have hc1:=x1.c 1 rfl;have hc2:=x1.c 2 rfl;have hc4:=x1.c 4 rfl;have hc5:=x1.c 5 rfl;have hwl:=x1.lt;have hcj:V.cell? ⟨w.heap.size,1,none⟩=some (O kn):=by rw[hc1,Hkn.out]
 obtain⟨m0,mg⟩:=HcN.out _ x3;have hS:(fun W'=>LL W' g 0 (.slice (some ⟨gL,oL,none⟩) s.cs.length cc)∧LL W' w.heap.size 1 (O kn)∧LL W' w.heap.size 4 (.string a.other)∧LL W' w.heap.size 5 (.string a.text)∧LL W' gL (oL+kn*2) (.slice PN bN.length pn)) V.drew:=⟨g0,hcj,hc4,hc5,m0⟩;have hHS:=hidL (fun W (h:Below V.heap.size V W)=>show (fun W'=>LL W' g 0 (.slice (some ⟨gL,oL,none⟩) s.cs.length cc)∧LL W' w.heap.size 1 (O kn)∧LL W' w.heap.size 4 (.string a.other)∧LL W' w.heap.size 5 (.string a.text)∧LL W' gL (oL+kn*2) (.slice PN bN.length pn)) W from⟨(h.cell (p:=⟨g,0,none⟩) hgl).trans g0,(h.cell (p:=⟨w.heap.size,1,none⟩) hwl).trans hcj,(h.cell (p:=⟨w.heap.size,4,none⟩) hwl).trans hc4,(h.cell (p:=⟨w.heap.size,5,none⟩) hwl).trans hc5,(h.cell (p:=⟨gL,_,none⟩) mg).trans m0⟩);have hw:=au (Below.here V);clear g0 hgl hc1 hc2 hc4 hc5 hwl;clear hcj m0 mg;refine aJ (fun W'=>LL W' g 0 (.slice (some ⟨gL,oL,none⟩) s.cs.length cc)∧LL W' w.heap.size 1 (O kn)∧LL W' w.heap.size 4 (.string a.other)∧LL W' w.heap.size 5 (.string a.text)∧LL W' gL (oL+kn*2) (.slice PN bN.length pn)) (fun i=>decide (i<18)) (by kernel_rfl) ?_;generalize V.drew=Vd at hS hw ⊢;apply ppP 0;apply ppP 1;apply ppP 2;apply tkP 3 hS;apply ppP 4;apply tkP 5 hS;apply ppP 6;apply ppP 7;apply tkP 8 hS;apply ppP 9;apply tkP 10 hS;apply ppP 11;apply tkP 12 hS
 try simp only[pu]
 have HC:=hidL (fun W (h:Below V.heap.size V W)=>mr S (.slice PN bN.length pn) bN a.other a.text W ((RSl.fair ah.fair).below HrN.out (aa x3 h x3.size)) (HG.out W ((aa x3 h x3.size).mono hb)).1 HgN.out ht);obtain⟨r,hr⟩:=exE (fZ bN a.other (bytes a.text));rw[←hr] at HC;obtain⟨⟨vk,vn,vs,vi,vl⟩,rc1⟩:=r;have Hr1:=hidL hr;clear hr;refine iI (i:=13) (j:=17) rfl rfl (by kernel_rfl) (fun K hK=>?_) (fun K hK=>?_)
 focus
  go_simp;refine(HC.out _ hw).mono ?_;rintro e w5 ⟨cs,rfl,hrv,hb5⟩;obtain⟨A1,m1,A2,m2,rfl,-,-⟩:=hrv.parts;have hw5:=aa hw hb5 hw.size;replace hS:=hHS.out _ hw5;have hvs:=hw.size;have hrv2:=aA.fair.keep (aA.fair.mono hrv (T:=fun y=>V.heap.size≤y∧y≠w5.heap.size) (fun y h k=>⟨Nat.le_trans hvs h,Nat.ne_of_lt k⟩)) (az.alloc _ w5 (.cells [O 0,O 0,E0,Z0,Z0].toArray 65));refine hK.out _ _ (fun _ _=>hS) ?_
  try simp only[pu]
  apply ppP 14;apply ppP 15;apply ppP 16
  try simp only[pu]
  refine ang 17 (fun K hK=>?_);go_simp;have hX:=Box.new w5 65 [O 0,O 0,E0,Z0,Z0];have hw6:=hw5.alloc hw5.size (.cells [O 0,O 0,E0,Z0,Z0].toArray 65);replace hS:=hHS.out _ hw6;refine hK.out _ _ (fun _ _=>hS) ?_
  try simp only[pu]
  have hXl:V.heap.size≤w5.heap.size:=hw5.size;clear hw5 hw hrv hb5 hvs;generalize w5.heap.size=X at hX hXl hrv2 ⊢;generalize World.alloc w5 _=w6 at hX hw6 hS hrv2 ⊢
 rotate_left 1
 focus
  go_simp;have hX0:=Box.new Vd 65 [O 0,O 0,E0,Z0,Z0];have hw5:=hw.alloc hw.size (.cells [O 0,O 0,E0,Z0,Z0].toArray 65);replace hS:=hHS.out _ hw5;refine hK.out _ _ (fun _ _=>hS) ?_
  try simp only[pu]
  have hXl:V.heap.size≤Vd.heap.size:=hw.size;clear hw;generalize Vd.heap.size=X at hX0 hXl ⊢;generalize World.alloc Vd _=w5 at hX0 hw5 hS ⊢;refine ang 13 (fun K hK=>?_);go_simp;refine(HC.out _ hw5).mono ?_;rintro e w6 ⟨cs,rfl,hrv,hb6⟩;obtain⟨A1,m1,A2,m2,rfl,-,-⟩:=hrv.parts;have hX5:=hX0.lt;have hX:=hX0.below hb6 hX0.lt;have hw6:=aa hw5 hb6 hw5.size;have hvs:=hw5.size;replace hS:=hHS.out _ hw6;have hrv2:=aA.fair.mono hrv (T:=fun y=>V.heap.size≤y∧y≠X) (fun y h k=>by have h:w5.heap.size≤y:=h;exact⟨by omega,by omega⟩);clear hrv hb6 hX0 hw5 hvs hX5;refine hK.out _ _ (fun _ _=>hS) ?_
  try simp only[pu]
  apply ppP 14;apply ppP 15;apply ppP 16
  try simp only[pu]
 all_goals
  obtain⟨r0,r1,r2,r3,r4,f0,f1,f2,f3,f4,lr⟩:=hX.rr5;refine ang 18 (fun K hK=>?_);go_simp;refine hK.out _ _ nay ?_
  try simp only[pu]
  apply ppP 19
  try simp only[pu]
  refine anf ?_ _;clear r0 r1 r2 r3 r4 f0 f1 f2 f3 f4 lr hS hHS HC;have hxl:=x2.lt;have hX7:=hX.setCells (VV vk vn vs A1 vi m1 A2 vl m2) rfl;have h7:=below_setCells (g:=X) hXl (VV vk vn vs A1 vi m1 A2 vl m2) 0 _ hw6;have hrv7:=aA.fair.keep hrv2 (az.setCells (fun h=>h.2 rfl) (VV vk vn vs A1 vi m1 A2 vl m2) 0 w6);change Exit.then _ _ _ _ (setCells w6 X 0 (VV vk vn vs A1 vi m1 A2 vl m2));clear hX hw6 hrv2;generalize setCells w6 X 0 _=V at hX7 h7 hrv7 ⊢;replace x3:=aa x3 h7 x3.size;replace x1:=x1.below h7 x1.lt;replace x2:=x2.below h7 x2.lt;clear h7;clear hX7 hrv7 hXl hxl;have hR3:=HR2.out;rw[←Hr1.out] at hR3;dsimp only at hR3
  by_cases e1:rc1=0
  case neg =>
   have d4:(rc1 != 0)=true:=by simpa using e1
   have d5:(rc1==0)=false:=by simpa using e1
   have hr:R=dY rc1:=by rw[hR3,if_pos e1]
   clear hR3 e1;subst hr
   (obtain⟨r0,r1,r2,r3,f0,f1,f2,f3,lr⟩:=x2.rr4)
   go_wp2_with fail;change bodyPost _ _ _ _ _ (setCells _ (w.heap.size+1) 0 [O rc1,O 0,E0,Z0]);obtain⟨k2,k3⟩:=eD.put (S:=S) (cs:=[O rc1,O 0,E0,Z0]) H.out (H.out.below x3) (Touch.below x3) (fun _ h=>.inl h) (Nat.le_succ _) (fun h=>by have:=hSw _ h;omega) hgw x2 rfl jd.flat;exact bodyPost_ret (read_results k2 rfl) rfl k3
  rw[if_neg (by simp[e1])] at hR3;have HR3:=hidL hR3;subst e1;clear hR3;go_upto_region 6 with fail;have g0:=HA.out _ x3;have hgl:=Nat.lt_of_lt_of_le hgw x3.size;have hc1:=x1.c 1 rfl;have hc2:=x1.c 2 rfl;have hc4:=x1.c 4 rfl;have hc5:=x1.c 5 rfl;have hwl:=x1.lt;have hcj:V.cell? ⟨w.heap.size,2,none⟩=some (O km):=by rw[hc2,Hkm.out]
  obtain⟨m0,mg⟩:=HcM.out _ x3;have hS:(fun W'=>LL W' g 0 (.slice (some ⟨gL,oL,none⟩) s.cs.length cc)∧LL W' w.heap.size 2 (O km)∧LL W' w.heap.size 4 (.string a.other)∧LL W' w.heap.size 5 (.string a.text)∧LL W' gL (oL+km*2) (.slice PM bM.length pm)) V.drew:=⟨g0,hcj,hc4,hc5,m0⟩;have hHS:=hidL (fun W (h:Below V.heap.size V W)=>show (fun W'=>LL W' g 0 (.slice (some ⟨gL,oL,none⟩) s.cs.length cc)∧LL W' w.heap.size 2 (O km)∧LL W' w.heap.size 4 (.string a.other)∧LL W' w.heap.size 5 (.string a.text)∧LL W' gL (oL+km*2) (.slice PM bM.length pm)) W from⟨(h.cell (p:=⟨g,0,none⟩) hgl).trans g0,(h.cell (p:=⟨w.heap.size,2,none⟩) hwl).trans hcj,(h.cell (p:=⟨w.heap.size,4,none⟩) hwl).trans hc4,(h.cell (p:=⟨w.heap.size,5,none⟩) hwl).trans hc5,(h.cell (p:=⟨gL,_,none⟩) mg).trans m0⟩);have hw:=au (Below.here V);clear g0 hgl hc1 hc2 hc4 hc5 hwl;clear hcj m0 mg;refine aJ (fun W'=>LL W' g 0 (.slice (some ⟨gL,oL,none⟩) s.cs.length cc)∧LL W' w.heap.size 2 (O km)∧LL W' w.heap.size 4 (.string a.other)∧LL W' w.heap.size 5 (.string a.text)∧LL W' gL (oL+km*2) (.slice PM bM.length pm)) (fun i=>decide (i<18)) (by kernel_rfl) ?_;generalize V.drew=Vd at hS hw ⊢;apply ppP 0;apply ppP 1;apply ppP 2;apply tkP 3 hS;apply ppP 4;apply tkP 5 hS;apply ppP 6;apply ppP 7;apply tkP 8 hS;apply ppP 9;apply tkP 10 hS;apply ppP 11;apply tkP 12 hS
  try simp only[pu]
  have HC:=hidL (fun W (h:Below V.heap.size V W)=>mr S (.slice PM bM.length pm) bM a.other a.text W ((RSl.fair ah.fair).below HrM.out (aa x3 h x3.size)) (HG.out W ((aa x3 h x3.size).mono hb)).1 HgM.out ht);obtain⟨r,hr⟩:=exE (fZ bM a.other (bytes a.text));rw[←hr] at HC;obtain⟨⟨vk,vn,vs,vi,vl⟩,rc2⟩:=r;have Hr2:=hidL hr;clear hr;refine iI (i:=13) (j:=17) rfl rfl (by kernel_rfl) (fun K hK=>?_) (fun K hK=>?_)
  focus
   go_simp;refine(HC.out _ hw).mono ?_;rintro e w5 ⟨cs,rfl,hrv,hb5⟩;obtain⟨A1,m1,A2,m2,rfl,-,-⟩:=hrv.parts;have hw5:=aa hw hb5 hw.size;replace hS:=hHS.out _ hw5;have hvs:=hw.size;have hrv2:=aA.fair.keep (aA.fair.mono hrv (T:=fun y=>V.heap.size≤y∧y≠w5.heap.size) (fun y h k=>⟨Nat.le_trans hvs h,Nat.ne_of_lt k⟩)) (az.alloc _ w5 (.cells [O 0,O 0,E0,Z0,Z0].toArray 65));refine hK.out _ _ (fun _ _=>hS) ?_
   try simp only[pu]
   apply ppP 14;apply ppP 15;apply ppP 16
   try simp only[pu]
   refine ang 17 (fun K hK=>?_);go_simp;have hX:=Box.new w5 65 [O 0,O 0,E0,Z0,Z0];have hw6:=hw5.alloc hw5.size (.cells [O 0,O 0,E0,Z0,Z0].toArray 65);replace hS:=hHS.out _ hw6;refine hK.out _ _ (fun _ _=>hS) ?_
   try simp only[pu]
   have hXl:V.heap.size≤w5.heap.size:=hw5.size;clear hw5 hw hrv hb5 hvs;generalize w5.heap.size=X at hX hXl hrv2 ⊢;generalize World.alloc w5 _=w6 at hX hw6 hS hrv2 ⊢
  rotate_left 1
  focus
   go_simp;have hX0:=Box.new Vd 65 [O 0,O 0,E0,Z0,Z0];have hw5:=hw.alloc hw.size (.cells [O 0,O 0,E0,Z0,Z0].toArray 65);replace hS:=hHS.out _ hw5;refine hK.out _ _ (fun _ _=>hS) ?_
   try simp only[pu]
   have hXl:V.heap.size≤Vd.heap.size:=hw.size;clear hw;generalize Vd.heap.size=X at hX0 hXl ⊢;generalize World.alloc Vd _=w5 at hX0 hw5 hS ⊢;refine ang 13 (fun K hK=>?_);go_simp;refine(HC.out _ hw5).mono ?_;rintro e w6 ⟨cs,rfl,hrv,hb6⟩;obtain⟨A1,m1,A2,m2,rfl,-,-⟩:=hrv.parts;have hX5:=hX0.lt;have hX:=hX0.below hb6 hX0.lt;have hw6:=aa hw5 hb6 hw5.size;have hvs:=hw5.size;replace hS:=hHS.out _ hw6;have hrv2:=aA.fair.mono hrv (T:=fun y=>V.heap.size≤y∧y≠X) (fun y h k=>by have h:w5.heap.size≤y:=h;exact⟨by omega,by omega⟩);clear hrv hb6 hX0 hw5 hvs hX5;refine hK.out _ _ (fun _ _=>hS) ?_
   try simp only[pu]
   apply ppP 14;apply ppP 15;apply ppP 16
   try simp only[pu]
  all_goals
   obtain⟨r0,r1,r2,r3,r4,f0,f1,f2,f3,f4,lr⟩:=hX.rr5;refine ang 18 (fun K hK=>?_);go_simp;refine hK.out _ _ nay ?_
   try simp only[pu]
   apply ppP 19
   try simp only[pu]
   refine anf ?_ _;clear r0 r1 r2 r3 r4 f0 f1 f2 f3 f4 lr hS hHS HC;have hxl:=x2.lt;have hX7:=hX.setCells (VV vk vn vs A1 vi m1 A2 vl m2) rfl;have h7:=below_setCells (g:=X) hXl (VV vk vn vs A1 vi m1 A2 vl m2) 0 _ hw6;have hrv7:=aA.fair.keep hrv2 (az.setCells (fun h=>h.2 rfl) (VV vk vn vs A1 vi m1 A2 vl m2) 0 w6);change Exit.then _ _ _ _ (setCells w6 X 0 (VV vk vn vs A1 vi m1 A2 vl m2));clear hX hw6 hrv2;generalize setCells w6 X 0 _=V at hX7 h7 hrv7 ⊢;replace x3:=aa x3 h7 x3.size;replace x1:=x1.below h7 x1.lt;replace x2:=x2.below h7 x2.lt;clear h7;have hR4:=HR3.out;rw[←Hr2.out] at hR4;dsimp only at hR4
   by_cases e2:rc2=0
   case neg =>
    have d4:(rc2 != 0)=true:=by simpa using e2
    have d5:(rc2==0)=false:=by simpa using e2
    have hr:R=dY rc2:=by rw[hR4,if_pos e2]
    clear hR4 e2;subst hr
    (obtain⟨r0,r1,r2,r3,f0,f1,f2,f3,lr⟩:=x2.rr4)
    go_wp2_with fail;change bodyPost _ _ _ _ _ (setCells _ (w.heap.size+1) 0 [O rc2,O 0,E0,Z0]);obtain⟨k2,k3⟩:=eD.put (S:=S) (cs:=[O rc2,O 0,E0,Z0]) H.out (H.out.below x3) (Touch.below x3) (fun _ h=>.inl h) (Nat.le_succ _) (fun h=>by have:=hSw _ h;omega) hgw x2 rfl jd.flat;exact bodyPost_ret (read_results k2 rfl) rfl k3
   rw[if_neg (by simp[e2])] at hR4;have HR4:=hidL hR4;subst e2;have Hok:=hidL (su (b:=bM) (name:=a.other) (v:=.mk vk vn vs vi vl) (by have:=Kz (b:=bM) (name:=a.other) (s:=bytes a.text) (by rw[←Hr2.out]);rwa [←Hr2.out] at this));clear hR4;go_upto_region 9 with fail;have g0:=HA.out _ x3;have hgl:=Nat.lt_of_lt_of_le hgw x3.size;have hc1:=x1.c 1 rfl;have hc2:=x1.c 2 rfl;have hc4:=x1.c 4 rfl;have hc5:=x1.c 5 rfl;have hwl:=x1.lt;have hcj:V.cell? ⟨w.heap.size,2,none⟩=some (O km):=by rw[hc2,Hkm.out]
   obtain⟨m0,mg⟩:=HcM.out _ x3;have hS:(fun W'=>LL W' g 0 (.slice (some ⟨gL,oL,none⟩) s.cs.length cc)∧LL W' w.heap.size 2 (O km)∧LL W' w.heap.size 4 (.string a.other)∧LL W' gL (oL+km*2) (.slice PM bM.length pm)∧LL W' X 0 (O vk)∧LL W' X 1 (O vn)∧LL W' X 2 (.string vs)∧LL W' X 3 (.slice A1 vi.length m1)∧LL W' X 4 (.slice A2 vl.length m2)) V.drew:=⟨g0,hcj,hc4,m0,hX7.cell 0,hX7.cell 1,hX7.cell 2,hX7.cell 3,hX7.cell 4⟩;have hw:=au (Below.here V);have hrvd:=aA.fair.keep hrv7 (az.drew _ V);clear g0 hgl hc1 hc2 hc4 hc5 hwl;clear hcj m0 mg hrv7;refine aJ (fun W'=>LL W' g 0 (.slice (some ⟨gL,oL,none⟩) s.cs.length cc)∧LL W' w.heap.size 2 (O km)∧LL W' w.heap.size 4 (.string a.other)∧LL W' gL (oL+km*2) (.slice PM bM.length pm)∧LL W' X 0 (O vk)∧LL W' X 1 (O vn)∧LL W' X 2 (.string vs)∧LL W' X 3 (.slice A1 vi.length m1)∧LL W' X 4 (.slice A2 vl.length m2)) (fun i=>decide (i<12)) (by kernel_rfl) ?_;generalize V.drew=Vd at hS hw hrvd ⊢;apply ppP 0;apply ppP 1;apply ppP 2;apply tkP 3 hS;apply ppP 4;apply tkP 5 hS;apply ppP 6;apply ppP 7;apply tkP 8 hS;apply ppP 9;apply tkP 10 hS;apply tkP 11 hS
   try simp only[pu]
   have hec:=oF S _ (.slice PM bM.length pm) bM a.other (VV vk vn vs A1 vi m1 A2 vl m2) (.mk vk vn vs vi vl) Vd ((RSl.fair ah.fair).below HrM.out (aa x3 hw x3.size)) hrvd (HG.out Vd ((aa x3 hw x3.size).mono hb)).1 HgM.out Hok.out.1 (Nat.le_trans Hok.out.2.1 (by decide)) (Nat.le_trans Hok.out.2.2 (by decide));have hR5:=HR4.out;obtain⟨q,hq⟩:=exE (iF bM a.other (.mk vk vn vs vi vl));rw[←hq] at hec hR5;obtain⟨qs,rc3⟩:=q;have HR5:=hidL hR5;have HE:=hidL hec;clear hec hR5 hq hrvd;refine ang 12 (fun K hK=>?_);go_simp;refine HE.out.mono ?_;rintro e w9 ⟨rfl,hb9⟩;refine hK.out _ _ nay ?_
   try simp only[pu]
   apply ppP 13;apply ppP 14;apply ppP 15;apply ppP 16;apply ppP 17
   try simp only[pu]
   refine anf ?_ _;have hw9:=aa hw hb9 hw.size;have q4:=(hX7.below hw9 hX7.lt).c 4 rfl;have ql:=(hX7.below hw9 hX7.lt).lt;replace x3:=aa x3 hw9 x3.size;replace x2:=x2.below hw9 x2.lt;clear hS hw hb9 hw9 hX7 x1
   by_cases e3:rc3=0
   case neg =>
    have d4:(rc3 != 0)=true:=by simpa using e3
    have d5:(rc3==0)=false:=by simpa using e3
    have hr:R=dY rc3:=by rw[HR5.out,if_pos e3]
    subst hr;clear e3
    (obtain⟨r0,r1,r2,r3,f0,f1,f2,f3,lr⟩:=x2.rr4)
    go_wp2_with fail;change bodyPost _ _ _ _ _ (setCells _ (w.heap.size+1) 0 [O rc3,O 0,E0,Z0]);obtain⟨k2,k3⟩:=eD.put (S:=S) (cs:=[O rc3,O 0,E0,Z0]) H.out (H.out.below x3) (Touch.below x3) (fun _ h=>.inl h) (Nat.le_succ _) (fun h=>by have:=hSw _ h;omega) hgw x2 rfl jd.flat;exact bodyPost_ret (read_results k2 rfl) rfl k3
   subst e3;have hr:R=⟨0,vl.length,⟨qs.toArray⟩,[]⟩:=by rw[HR5.out,if_neg (by simp)];rfl
   subst hr;obtain⟨r0,r1,r2,r3,f0,f1,f2,f3,lr⟩:=x2.rr4;go_wp2_with fail;obtain⟨zs,hzs⟩:=exE ([O 0,O vl.length,.string ⟨qs.toArray⟩,Z0]:List Value);obtain⟨k2,k3⟩:=eD.put (S:=S) (cs:=zs) (r:=⟨0,vl.length,⟨qs.toArray⟩,[]⟩) H.out (H.out.below x3) (Touch.below x3) (fun _ h=>.inl h) (Nat.le_succ _) (fun h=>by have:=hSw _ h;omega) hgw x2 (by rw[hzs];rfl) (by rw[hzs];exact jd.flat);rw[hzs] at k2 k3;change bodyPost _ _ _ _ _ (setCells _ (w.heap.size+1) 0 [O 0,O vl.length,.string ⟨qs.toArray⟩,Z0]);exact bodyPost_ret (read_results k2 rfl) rfl k3
end Go.Proofs.YtknnhpkjgnkcdaaGreatDoor
