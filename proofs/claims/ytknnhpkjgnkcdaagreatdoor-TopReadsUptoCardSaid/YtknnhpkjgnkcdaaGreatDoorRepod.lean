/- Walks and plain laws. -/
import Derived.Test.YtknnhpkjgnkcdaaGreatDoorRepor
set_option linter.all false
set_option maxRecDepth 100000
set_option maxHeartbeats 8000000
namespace Go.Proofs.YtknnhpkjgnkcdaaGreatDoor
section
open Go.Proofs.Tryz
open Go.RowKit
theorem do_results {W:World}{a:Act}{g:Nat}{c0 c1 c2 c3:Value}(hb:Box W g 32 [c0,c1,c2,c3])(h4:a.tmps.getD 4 undef=.pointer (some ⟨g,0,none⟩)) :
  (results f9 a.tmps).run prog W=.ok (.agg #[c0,c1,c2,c3]) W:=by
 have e0:=hb.c 0 rfl;have e1:=hb.c 1 rfl;have e2:=hb.c 2 rfl;have e3:=hb.c 3 rfl;simp only[Array.getD_eq_getD_getElem?] at h4;simp[results,results9,go_sem,h4,e0,e1,e2,e3]
section
variable {S:Nat→Prop}{row:Option Nat}{base g:Nat}{w w':World}{s:cK}{a:mG}
theorem bS.anj (h:bS S row base w g s)(n:Int):bS S row base (w.setCell ⟨g,2,none⟩ (O n)) g ⟨s.cs,s.rs,n⟩:=by
 obtain⟨vc,vr,a1,a2,a3,a4,a5,a6,a7,a8⟩:=h;exact⟨vc,vr,a1,a2.gB 2 _,(RSl.fair dw.fair).keep a3 (az.setCell _ _ a5),a4.setCell iG.fair _ (a2.gV a4 (by decide)) (fun h=>h),a5,a6,by simpa using a7,a8⟩
theorem bS.KE (h:bS S row base w g s)(ht:Touch row g w w')(hb:base≤w.heap.size):Below base w w':=by
 have hr:∀ y,row=some y→base≤y:=fun y e=>by subst e;exact h.GM.1
 obtain⟨_,_,_,_,_,_,_,_,_,h8⟩:=h;exact ht.aeJ hb h8 hr
theorem bS.row0 (h:bS S row base w g s):∃ A c,RSl 2 48 dw S w [.slice A s.cs.length c] s.cs∧∀ W,Below w.heap.size w W→LL W g 0 (.slice A s.cs.length c)∧g<W.heap.size:=by
 obtain⟨vc,vr,-,h2,h3,-⟩:=h;obtain⟨A,c,rfl,-,-⟩:=h3.form;exact⟨A,c,h3,fun W hb=>⟨(h2.below hb h2.lt).cell 0,(h2.below hb h2.lt).lt⟩⟩
theorem eD.next {w2 w3:World}{s':cK}{e:Int}(hn:pF S row base g w w2 s')(hb:Below w2.heap.size w2 w3):eD S row base g w (dY e,s') (.returned (.agg #[O e,O 0,E0,Z0])) w3:=by
 obtain⟨S',row',h1,h2,h3,h4⟩:=hn;exact⟨_,S',row',rfl,jd.flat,h1.below hb,h2,h3,h4.via hb⟩
theorem alN (h:a.kind=1):zw s a=uP s a:=by unfold zw;rw[if_pos h]
theorem amw (h:a.kind=2):zw s a=(dY (lJ s a).1,(lJ s a).2):=by unfold zw;rw[if_neg (by omega),if_pos h]
theorem amq (h:3≤a.kind∧a.kind≤6):zw s a=if qJ s.rs a.name=false then (dY 3,s) else uQ s (fB s.rs a.name) a:=by unfold zw;rw[if_neg (by omega),if_neg (by omega),if_pos h]
theorem amf (h:a.kind=7):zw s a=(Nh s a,s):=by unfold zw;rw[if_neg (by omega),if_neg (by omega),if_neg (by omega),if_pos h]
theorem amA (h:a.kind=8):zw s a=(CL s a,s):=by unfold zw;rw[if_neg (by omega),if_neg (by omega),if_neg (by omega),if_neg (by omega),if_pos h]
theorem akP (h:a.kind<1∨8<a.kind):zw s a=(dY 11,s):=by unfold zw;rw[if_neg (by omega),if_neg (by omega),if_neg (by omega),if_neg (by omega),if_neg (by omega)]
end
theorem WL {S:Nat→Prop}{row:Option Nat}{base g:Nat}{w:World}{s:cK}(a:mG)(h:bS S row base w g s)(hk:gY s)(ha:a.name.size≤140737488351232)(ht:a.text.size≤140737488351232)(hb:base≤w.heap.size)(hG:qW base w) :
  Calls prog 9 #[.pointer (some ⟨g,0,none⟩),.agg (fQ a).toArray] w (eD S row base g w (doF s a)):=by
 obtain⟨R,hR⟩:=exE (doF s a);rw[←hR];have HR:=hidL hR;have H:=hidL h;have HK:=hidL hk;have HG:=hidL hG;have hrl:∀ y,row=some y→y<w.heap.size:=fun y e=>by subst e;exact h.GM.2
 obtain⟨vc,vr,hrow,hbx,hcs,hrs,hnS,hnR,hSw,hbg⟩:=h;obtain⟨x1,x2,x3⟩:=bY w (fQ a) [O 0,O 0,E0,Z0] 35 32;obtain⟨ak,an,am,nm,ot,tx⟩:=a;have Hsz:=hidL (show nm.size≤140737488351232∧tx.size≤140737488351232 from⟨ha,ht⟩);dsimp only[fQ] at x1 x2 x3 ⊢;have hgw:=hbx.lt;have gb:=fun W (h:Below w.heap.size w W)=>(hbx.below h hgw)
 have e1:IntKind.i64.wrap (s.acts+1)=s.acts+1:=IntWalk.i64_in _ (by have:=hk.most.2.2;omega);clear hR hk hG hbx hcs hrs hrow ha ht;go_enter func9,ntmps9;go_upto_region 1 with fail;generalize World.alloc (World.alloc w _) _=W0 at x1 x2 x3 ⊢;have g2:=(gb _ x3).c 2 rfl;have fz2:=(gb _ x3).frozen 2;have hgl:=(gb _ x3).lt;clear gb
 by_cases hf:200≤s.acts
 ·--[FULL
  have hd:decide (s.acts≥200)=true:=by simpa using hf
  have hr:R=(dY 12,s):=by rw[HR.out,doF,if_pos hf]
  subst hr;have HN:=H.out.below x3;have HT:Touch row g w W0:=Touch.below x3;have hc0:=x1.c 0 rfl;have hc1:=x1.c 1 rfl;have hc2:=x1.c 2 rfl;have hc3:=x1.c 3 rfl;have hc4:=x1.c 4 rfl;have hc5:=x1.c 5 rfl;have hwl:=x1.lt;clear e1;go_wp2_with fail;refine(Qv 12 _).mono ?_;rintro e w8 ⟨rfl,hb8⟩;replace x2:=x2.below hb8 x2.lt;replace HN:=HN.below hb8;replace HT:=HT.via hb8;clear hc0 hc1 hc2 hc3 hc4 hc5 hwl;clear hb8 x1 x3 g2 fz2 hgl hd hf
  (obtain⟨r0,r1,r2,r3,f0,f1,f2,f3,lr⟩:=x2.rr4)
  go_wp2_with fail;change bodyPost _ _ _ _ _ (setCells _ (w.heap.size+1) 0 [O 12,O 0,E0,Z0]);obtain⟨k2,k3⟩:=eD.put (S:=S) (cs:=[O 12,O 0,E0,Z0]) H.out HN HT (fun _ h=>.inl h) (Nat.le_succ _) (fun h=>by have:=hSw _ h;omega) hgw x2 rfl jd.flat;exact bodyPost_ret (do_results k2 rfl) rfl k3
 have hd:decide (s.acts≥200)=false:=by simpa using hf
 have HR1:Hid (R=zw ⟨s.cs,s.rs,s.acts+1⟩ ⟨ak,an,am,nm,ot,tx⟩):=by show _=_;rw[HR.out,doF,if_neg hf]
 have HK1:=hidL (show gY ⟨s.cs,s.rs,s.acts+1⟩ from⟨HK.out.books,HK.out.parents,HK.out.refs,HK.out.sorted,HK.out.most.1,HK.out.most.2.1,by have:=HK.out.most.2.2.1;show 0≤s.acts+1;omega,by show s.acts+1≤200;omega⟩);clear hf;go_upto_region 7 with fail;have HN:=(H.out.below x3).anj (s.acts+1);have HT:=(Touch.below (row:=row) (g:=g) x3).setCell (p:=⟨g,2,none⟩) (.inl rfl) (O (s.acts+1));replace x1:=x1.far (p:=⟨g,2,none⟩) (show w.heap.size≠g by omega) (O (s.acts+1));replace x2:=x2.far (p:=⟨g,2,none⟩) (show w.heap.size+1≠g by omega) (O (s.acts+1));clear g2 fz2 hgl hd x3 e1;generalize World.setCell W0 _ _=W1 at x1 x2 HN HT ⊢;have hB:=H.out.KE HT hb;have hb1:=Nat.le_trans hb hB.size;have HG1:=hidL (HG.out.below hB);clear hB;obtain⟨s1,hs1⟩:=exE ((⟨s.cs,s.rs,s.acts+1⟩:cK));rw[←hs1] at HN HR1 HK1;clear hs1;have hc0:=x1.c 0 rfl;have hc1:=x1.c 1 rfl;have hc2:=x1.c 2 rfl;have hc3:=x1.c 3 rfl;have hc4:=x1.c 4 rfl;have hc5:=x1.c 5 rfl;have hwl:=x1.lt
 by_cases k1:ak=1
 ·--[K1
  subst k1;have HC:=adN ⟨1,an,am,nm,ot,tx⟩ HN HK1.out (Nat.le_trans Hsz.out.1 (by decide)) (Nat.le_trans Hsz.out.2 (by decide)) hb1 HG1.out;rw[←alN rfl,←HR1.out] at HC;dsimp only[fQ] at HC;replace HC:=hidL HC;go_wp2_with fail;refine HC.out.mono ?_;intro e w9 hp;obtain⟨A8,k8,rfl⟩:=hp.form;obtain⟨k1,k2,k3⟩:=hp.stored (S:=S) HT (fun y h=>.inl h) (.inl rfl) (Nat.le_succ _) x2 rfl (fun h=>by have:=hSw _ h;omega) (fun e=>by have:=hrl _ e;omega) (by omega);obtain⟨r0,r1,r2,r3,f0,f1,f2,f3,lr⟩:=k1.rr4;clear hc0 hc1 hc2 hc3 hc4 hc5 hwl;go_wp2_with fail;exact bodyPost_ret (do_results k2 rfl) rfl k3
 by_cases k2:ak=2
 ·--[K2
  subst k2;have HC:=adJ ⟨2,an,am,nm,ot,tx⟩ HN HK1.out.sorted (by have:=HK1.out.most.1;omega) (by have:=HK1.out.most.2.1;omega) (Nat.le_trans Hsz.out.1 (by decide)) hb1 (HG1.out _ (Below.refl _ _)).1;obtain⟨Q,hQ⟩:=exE (lJ s1 ⟨2,an,am,nm,ot,tx⟩);have hr:R=(dY Q.1,Q.2):=by rw[HR1.out,amw rfl,hQ]
  rw[←hQ] at HC;dsimp only[fQ] at HC;obtain⟨q1,q2⟩:=Q;dsimp only at hr HC;replace HC:=hidL HC;clear hQ;subst hr;go_wp2_with fail;refine HC.out.mono ?_;rintro e w7 ⟨rfl,hn⟩;go_wp2_with fail;refine(Qv q1 _).mono ?_;rintro e w9 ⟨rfl,hb9⟩;have hp:=eD.next (e:=q1) hn hb9;clear hn hb9;obtain⟨k1,k2,k3⟩:=hp.stored (S:=S) HT (fun y h=>.inl h) (.inl rfl) (Nat.le_succ _) x2 rfl (fun h=>by have:=hSw _ h;omega) (fun e=>by have:=hrl _ e;omega) (by omega);obtain⟨r0,r1,r2,r3,f0,f1,f2,f3,lr⟩:=k1.rr4;clear hc0 hc1 hc2 hc3 hc4 hc5 hwl;go_wp2_with fail;exact bodyPost_ret (do_results k2 rfl) rfl k3
 by_cases k3:3≤ak∧ak≤6
 ·--[K3
  have HR2:=HR1.out;rw[amq k3] at HR2;dsimp only at HR2;have hfd:=FH nm HN HK1.out.sorted (by have:=HK1.out.most.2.1;omega);obtain⟨P,hP⟩:=exE (fB s1.rs nm);obtain⟨B,hB⟩:=exE (qJ s1.rs nm);have HBP:Hid (B=true→P<s1.rs.length):=fun e=>by rw[hP];exact Fe (hB ▸ e)
  rw[←hP,←hB] at hfd HR2;have HFD:=hidL hfd;replace HR2:=hidL HR2;clear hfd hP hB k1 k2;have k4:ak=3∨ak=4∨ak=5∨ak=6:=by omega
  clear k3;rcases k4 with rfl | rfl | rfl | rfl
  all_goals
   go_wp2_with fail;refine HFD.out.mono ?_;rintro e w5 ⟨rfl,hb5⟩;replace HT:=HT.via hb5;replace x1:=x1.below hb5 x1.lt;replace x2:=x2.below hb5 x2.lt;have HG5:=hidL (HG1.out.below (hb5.mono hb1));have hb6:=Nat.le_trans hb1 hb5.size;replace HN:=HN.below hb5;clear hc0 hc1 hc2 hc3 hc4 hc5 hwl;clear hb5 HFD;have hc0:=x1.c 0 rfl;have hc1:=x1.c 1 rfl;have hc2:=x1.c 2 rfl;have hc3:=x1.c 3 rfl;have hc4:=x1.c 4 rfl;have hc5:=x1.c 5 rfl;have hwl:=x1.lt;cases B with
   | false =>
    have hr:R=(dY 3,s1):=by rw[HR2.out,if_pos rfl]
    subst hr;go_wp2_with fail;refine(Qv 3 _).mono ?_;rintro e w8 ⟨rfl,hb8⟩;replace x2:=x2.below hb8 x2.lt;replace HN:=HN.below hb8;replace HT:=HT.via hb8;clear hc0 hc1 hc2 hc3 hc4 hc5 hwl;clear hb8 x1
    (obtain⟨r0,r1,r2,r3,f0,f1,f2,f3,lr⟩:=x2.rr4)
    go_wp2_with fail;change bodyPost _ _ _ _ _ (setCells _ (w.heap.size+1) 0 [O 3,O 0,E0,Z0]);obtain⟨k2,k3⟩:=eD.put (S:=S) (cs:=[O 3,O 0,E0,Z0]) H.out HN HT (fun _ h=>.inl h) (Nat.le_succ _) (fun h=>by have:=hSw _ h;omega) hgw x2 rfl jd.flat;exact bodyPost_ret (do_results k2 rfl) rfl k3
   | true =>
    have hr:=HR2.out;rw[if_neg (by simp)] at hr;have HC:=fun k=>acF P ⟨k,an,am,nm,ot,tx⟩ HN HK1.out (HBP.out rfl) hb6 HG5.out
    dsimp only[fQ] at HC
    first
     | (replace HC:=HC 3;rw[←hr] at HC)
     | (replace HC:=HC 4;rw[←hr] at HC)
     | (replace HC:=HC 5;rw[←hr] at HC)
     | (replace HC:=HC 6;rw[←hr] at HC)
    replace HC:=hidL HC;clear hr;go_wp2_with fail;refine HC.out.mono ?_;intro e w9 hp;obtain⟨A8,k8,rfl⟩:=hp.form;obtain⟨k1,k2,k3⟩:=hp.stored (S:=S) HT (fun y h=>.inl h) (.inl rfl) (Nat.le_succ _) x2 rfl (fun h=>by have:=hSw _ h;omega) (fun e=>by have:=hrl _ e;omega) (by omega);obtain⟨r0,r1,r2,r3,f0,f1,f2,f3,lr⟩:=k1.rr4;clear hc0 hc1 hc2 hc3 hc4 hc5 hwl;go_wp2_with fail;exact bodyPost_ret (do_results k2 rfl) rfl k3
 by_cases k7:ak=7
 ·--[K7
  subst k7;have HR2:=HR1.out;rw[amf rfl] at HR2;replace HR2:=hidL HR2;clear k1 k2 k3;obtain⟨AC,cc,hcs,hg0⟩:=HN.row0;obtain⟨g0,hgl⟩:=hg0 _ (Below.refl _ _);replace hg0:=hidL hg0;go_upto_region 21 with fail
  by_cases n0:an<0
  ·have d0:decide (an<0)=true:=by simpa using n0
   have hr:R=(dY 3,s1):=by rw[HR2.out,Nh,if_pos (by simp[isC];omega)]
   subst hr;clear n0 hcs hg0;have hS:(fun W'=>LL W' w.heap.size 1 (O an)∧LL W' g 0 (.slice AC s1.cs.length cc)) W1.drew:=⟨hc1,g0⟩;clear hc0 hc1 hc2 hc3 hc4 hc5 hwl;clear g0 hgl;refine aJ (fun W'=>LL W' w.heap.size 1 (O an)∧LL W' g 0 (.slice AC s1.cs.length cc)) (fun _=>true) (by kernel_rfl) ?_;apply ppP 0;apply tkP 1 hS;apply ppP 2;apply ppP 3;apply skP 4 hS;apply skP 5 hS;apply skP 6 hS;apply skP 7 hS;apply skP 8 hS;apply skP 9 hS;apply skP 10 hS;apply skP 11 hS;apply ppP 12
   try simp only[pu]
   refine anf ?_ _;clear hS;replace x1:=x1.drew;replace x2:=x2.drew;replace HN:=HN.below (au (Below.here W1));replace HT:=HT.via (au (Below.here W1))
   (first | generalize W1.drew=V at hS x1 x2 HN HT HA2 HP2 ⊢ | generalize W1.drew=V at hS x1 x2 HN HT ⊢ | generalize W1.drew=V at x1 x2 HN HT HA2 HP2 ⊢ | generalize W1.drew=V at x1 x2 HN HT ⊢)
   have hc0:=x1.c 0 rfl;have hc1:=x1.c 1 rfl;have hc2:=x1.c 2 rfl;have hc3:=x1.c 3 rfl;have hc4:=x1.c 4 rfl;have hc5:=x1.c 5 rfl;have hwl:=x1.lt;go_wp2_with fail;refine(Qv 3 _).mono ?_;rintro e w8 ⟨rfl,hb8⟩;replace x2:=x2.below hb8 x2.lt;replace HN:=HN.below hb8;replace HT:=HT.via hb8;clear hc0 hc1 hc2 hc3 hc4 hc5 hwl;clear hb8 x1
   (obtain⟨r0,r1,r2,r3,f0,f1,f2,f3,lr⟩:=x2.rr4)
   go_wp2_with fail;change bodyPost _ _ _ _ _ (setCells _ (w.heap.size+1) 0 [O 3,O 0,E0,Z0]);obtain⟨k2,k3⟩:=eD.put (S:=S) (cs:=[O 3,O 0,E0,Z0]) H.out HN HT (fun _ h=>.inl h) (Nat.le_succ _) (fun h=>by have:=hSw _ h;omega) hgw x2 rfl jd.flat;exact bodyPost_ret (do_results k2 rfl) rfl k3
  have d0:decide (an<0)=false:=by simpa using n0
  by_cases n1:(s1.cs.length:Int)≤an
  ·have d1:decide (an≥(s1.cs.length:Int))=true:=by simpa using n1
   have hr:R=(dY 3,s1):=by rw[HR2.out,Nh,if_pos (by simp[isC];omega)]
   subst hr;clear n0 n1 hcs hg0;have hS:(fun W'=>LL W' w.heap.size 1 (O an)∧LL W' g 0 (.slice AC s1.cs.length cc)) W1.drew:=⟨hc1,g0⟩;clear hc0 hc1 hc2 hc3 hc4 hc5 hwl;clear g0 hgl;refine aJ (fun W'=>LL W' w.heap.size 1 (O an)∧LL W' g 0 (.slice AC s1.cs.length cc)) (fun _=>true) (by kernel_rfl) ?_;apply ppP 0;apply tkP 1 hS;apply ppP 2;apply ppP 3;apply ppP 4;apply tkP 5 hS;apply ppP 6;apply ppP 7;apply ppP 8;apply tkP 9 hS;apply ppP 10;apply ppP 11;apply ppP 12
   try simp only[pu]
   refine anf ?_ _;clear hS;replace x1:=x1.drew;replace x2:=x2.drew;replace HN:=HN.below (au (Below.here W1));replace HT:=HT.via (au (Below.here W1))
   (first | generalize W1.drew=V at hS x1 x2 HN HT HA2 HP2 ⊢ | generalize W1.drew=V at hS x1 x2 HN HT ⊢ | generalize W1.drew=V at x1 x2 HN HT HA2 HP2 ⊢ | generalize W1.drew=V at x1 x2 HN HT ⊢)
   have hc0:=x1.c 0 rfl;have hc1:=x1.c 1 rfl;have hc2:=x1.c 2 rfl;have hc3:=x1.c 3 rfl;have hc4:=x1.c 4 rfl;have hc5:=x1.c 5 rfl;have hwl:=x1.lt;go_wp2_with fail;refine(Qv 3 _).mono ?_;rintro e w8 ⟨rfl,hb8⟩;replace x2:=x2.below hb8 x2.lt;replace HN:=HN.below hb8;replace HT:=HT.via hb8;clear hc0 hc1 hc2 hc3 hc4 hc5 hwl;clear hb8 x1
   (obtain⟨r0,r1,r2,r3,f0,f1,f2,f3,lr⟩:=x2.rr4)
   go_wp2_with fail;change bodyPost _ _ _ _ _ (setCells _ (w.heap.size+1) 0 [O 3,O 0,E0,Z0]);obtain⟨k2,k3⟩:=eD.put (S:=S) (cs:=[O 3,O 0,E0,Z0]) H.out HN HT (fun _ h=>.inl h) (Nat.le_succ _) (fun h=>by have:=hSw _ h;omega) hgw x2 rfl jd.flat;exact bodyPost_ret (do_results k2 rfl) rfl k3
  have d1:decide (an≥(s1.cs.length:Int))=false:=by simpa using n1
  have hR3:=HR2.out;rw[Nh,if_neg (by simp[isC];omega)] at hR3;obtain⟨kn,hkn⟩:∃ k:Nat,an=k:=⟨an.toNat,by omega⟩;have hkl:kn<s1.cs.length:=by omega
  have hki:(kn:Int)<s1.cs.length:=by omega
  rw[sw hkn hkl] at hR3;dsimp only at hR3;subst hkn;rw[Int.toNat_natCast,Jn hkl] at hR3;have HR3:=hidL hR3;clear n0 n1 hR3;obtain⟨gL,oL,rfl,-,-⟩:=hcs.base (by omega);obtain⟨P,p,Q,q,hrb,-,hat⟩:=Ls hcs hkl;have HB:=hidL (show aS s1.cs[kn].book from iA (HK1.out.books _ (List.getElem_mem hkl)));obtain⟨c,hc⟩:=exE (s1.cs[kn]);rw[←hc] at HR3 hrb HB hat;clear hc;obtain⟨bk,ps⟩:=c;dsimp only at HR3 hrb HB hat;have HA:=hidL (fun W (h:Below W1.heap.size W1 W)=>(⟨(hg0.out W h).1,(hg0.out W h).2,hat W h⟩:_∧_∧_));have HPR:=hidL (fun W (h:Below W1.heap.size W1 W)=>EW S (.slice P bk.length p) bk W ((RSl.fair ah.fair).below hrb h) (HG1.out W (h.mono hb1)).1 (HG1.out W (h.mono hb1)).2.1 (HG1.out W (h.mono hb1)).2.2 HB.out);obtain⟨pf,hpf⟩:=exE (pU bk);rw[←hpf] at HPR HR3;obtain⟨pt,pe⟩:=pf;dsimp only at HR3;clear hpf hcs hrb hat;have hS:(fun W'=>LL W' w.heap.size 1 (O (kn:Int))∧LL W' g 0 (.slice (some ⟨gL,oL,none⟩) s1.cs.length cc)) W1.drew:=⟨hc1,g0⟩;clear hc0 hc1 hc2 hc3 hc4 hc5 hwl;clear g0 hgl;refine aJ (fun W'=>LL W' w.heap.size 1 (O (kn:Int))∧LL W' g 0 (.slice (some ⟨gL,oL,none⟩) s1.cs.length cc)) (fun _=>true) (by kernel_rfl) ?_;apply ppP 0;apply tkP 1 hS;apply ppP 2;apply ppP 3;apply ppP 4;apply tkP 5 hS;apply ppP 6;apply ppP 7;apply ppP 8;apply tkP 9 hS;apply ppP 10;apply ppP 11;apply ppP 12
  try simp only[pu]
  refine anf ?_ _;clear hS;have hv:=au (Below.here W1);have HA2:=hidL (fun W (h:Below W1.drew.heap.size W1.drew W)=>HA.out W (aa hv h hv.size));have HP2:=hidL (fun W (h:Below W1.drew.heap.size W1.drew W)=>HPR.out W (aa hv h hv.size));clear HA HPR hv hg0;replace x1:=x1.drew;replace x2:=x2.drew;replace HN:=HN.below (au (Below.here W1));replace HT:=HT.via (au (Below.here W1))
  (first | generalize W1.drew=V at hS x1 x2 HN HT HA2 HP2 ⊢ | generalize W1.drew=V at hS x1 x2 HN HT ⊢ | generalize W1.drew=V at x1 x2 HN HT HA2 HP2 ⊢ | generalize W1.drew=V at x1 x2 HN HT ⊢)
  go_upto_region 23 with fail;obtain⟨g0,hgl,m0,m1,mg⟩:=HA2.out _ (Below.refl _ _);have hc1:=x1.c 1 rfl;have hwl:=x1.lt;have hS:(fun W'=>LL W' g 0 (.slice (some ⟨gL,oL,none⟩) s1.cs.length cc)∧LL W' w.heap.size 1 (O kn)∧LL W' gL (oL+kn*2) (.slice P bk.length p)) V.drew:=⟨g0,hc1,m0⟩;have hHS:=hidL (fun W (h:Below V.heap.size V W)=>show (fun W'=>LL W' g 0 (.slice (some ⟨gL,oL,none⟩) s1.cs.length cc)∧LL W' w.heap.size 1 (O kn)∧LL W' gL (oL+kn*2) (.slice P bk.length p)) W from⟨(HA2.out W h).1,(h.cell (p:=⟨w.heap.size,1,none⟩) hwl).trans hc1,(HA2.out W h).2.2.1⟩);have hw:=au (Below.here V);clear g0 hgl hc1 hwl m0 m1 mg;refine aJ (fun W'=>LL W' g 0 (.slice (some ⟨gL,oL,none⟩) s1.cs.length cc)∧LL W' w.heap.size 1 (O kn)∧LL W' gL (oL+kn*2) (.slice P bk.length p)) (fun _=>true) (by kernel_rfl) ?_;generalize V.drew=Vd at hS hw ⊢;apply ppP 0;apply ppP 1;apply ppP 2;apply tkP 3 hS;apply ppP 4;apply tkP 5 hS;apply ppP 6;apply ppP 7;apply tkP 8 hS
  try simp only[pu]
  refine ang 9 (fun K hK=>?_);go_simp;refine(HP2.out _ hw).mono ?_;rintro e w5 ⟨rfl,hb5⟩;have hw5:=aa hw hb5 hw.size;replace hS:=hHS.out _ hw5;refine hK.out _ _ (fun _ _=>hS) ?_
  try simp only[pu]
  apply ppP 10;apply ppP 11;apply ppP 12;apply ppP 13;apply ppP 14
  try simp only[pu]
  refine anf ?_ _;have HA5:=hidL (fun W (h:Below w5.heap.size w5 W)=>HA2.out W (aa hw5 h hw5.size));clear hS hHS hw hb5 HP2 HA2;replace x1:=x1.below hw5 x1.lt;replace x2:=x2.below hw5 x2.lt;replace HN:=HN.below hw5;replace HT:=HT.via hw5;clear hw5
  by_cases e1:pe=0
  case neg =>
   have d4:(pe != 0)=true:=by simpa using e1
   have d5:(pe==0)=false:=by simpa using e1
   have hr:R=(dY pe,s1):=by rw[HR3.out,if_pos e1]
   subst hr;clear e1;have hc0:=x1.c 0 rfl;have hc1:=x1.c 1 rfl;have hc2:=x1.c 2 rfl;have hc3:=x1.c 3 rfl;have hc4:=x1.c 4 rfl;have hc5:=x1.c 5 rfl;have hwl:=x1.lt;go_wp2_with fail;refine(Qv pe _).mono ?_;rintro e w8 ⟨rfl,hb8⟩;replace x2:=x2.below hb8 x2.lt;replace HN:=HN.below hb8;replace HT:=HT.via hb8;clear hc0 hc1 hc2 hc3 hc4 hc5 hwl;clear hb8 x1
   (obtain⟨r0,r1,r2,r3,f0,f1,f2,f3,lr⟩:=x2.rr4)
   go_wp2_with fail;change bodyPost _ _ _ _ _ (setCells _ (w.heap.size+1) 0 [O pe,O 0,E0,Z0]);obtain⟨k2,k3⟩:=eD.put (S:=S) (cs:=[O pe,O 0,E0,Z0]) H.out HN HT (fun _ h=>.inl h) (Nat.le_succ _) (fun h=>by have:=hSw _ h;omega) hgw x2 rfl jd.flat;exact bodyPost_ret (do_results k2 rfl) rfl k3
  subst e1;have hr:R=(⟨0,ps.length,⟨pt.toArray⟩,[]⟩,s1):=by rw[HR3.out,if_neg (by simp)]
  subst hr;go_upto_region 26 with fail;obtain⟨g0,hgl,m0,m1,mg⟩:=HA5.out _ (Below.refl _ _);have hc1:=x1.c 1 rfl;have hwl:=x1.lt;have hS:(fun W'=>LL W' g 0 (.slice (some ⟨gL,oL,none⟩) s1.cs.length cc)∧LL W' w.heap.size 1 (O kn)∧LL W' gL (oL+kn*2+1) (.slice Q ps.length q)) w5.drew:=⟨g0,hc1,m1⟩;clear g0 hgl hc1 hwl m0 m1 mg HA5;refine aJ (fun W'=>LL W' g 0 (.slice (some ⟨gL,oL,none⟩) s1.cs.length cc)∧LL W' w.heap.size 1 (O kn)∧LL W' gL (oL+kn*2+1) (.slice Q ps.length q)) (fun i=>decide (i<12)) (by kernel_rfl) ?_;replace x1:=x1.drew;replace x2:=x2.drew;replace HN:=HN.below (au (Below.here w5));replace HT:=HT.via (au (Below.here w5))
  (first | generalize w5.drew=Vd at hS x1 x2 HN HT HA2 HP2 ⊢ | generalize w5.drew=Vd at hS x1 x2 HN HT ⊢ | generalize w5.drew=Vd at x1 x2 HN HT HA2 HP2 ⊢ | generalize w5.drew=Vd at x1 x2 HN HT ⊢)
  apply ppP 0;apply ppP 1;apply ppP 2;apply tkP 3 hS;apply ppP 4;apply tkP 5 hS;apply ppP 6;apply ppP 7;apply tkP 8 hS;apply ppP 9;apply ppP 10;apply ppP 11
  try simp only[pu]
  obtain⟨r0,r1,r2,r3,f0,f1,f2,f3,lr⟩:=x2.rr4;refine ang 12 (fun K hK=>?_);go_simp;refine hK.out _ _ nay ?_
  try simp only[pu]
  refine anf ?_ _;clear r0 r1 r2 r3 f0 f1 f2 f3 lr hS;go_wp2_with fail;obtain⟨zs,hzs⟩:=exE ([O 0,O ps.length,.string ⟨pt.toArray⟩,Z0]:List Value);obtain⟨k2,k3⟩:=eD.put (S:=S) (cs:=zs) (r:=⟨0,ps.length,⟨pt.toArray⟩,[]⟩) H.out HN HT (fun _ h=>.inl h) (Nat.le_succ _) (fun h=>by have:=hSw _ h;omega) hgw x2 (by rw[hzs];rfl) (by rw[hzs];exact jd.flat);rw[hzs] at k2 k3;change bodyPost _ _ _ _ _ (setCells _ (w.heap.size+1) 0 [O 0,O ps.length,.string ⟨pt.toArray⟩,Z0]);exact bodyPost_ret (do_results k2 rfl) rfl k3
 by_cases k8:ak=8
 ·--[K8
  subst k8;have HC:=ahO ⟨8,an,am,nm,ot,tx⟩ HN HK1.out (Nat.le_trans Hsz.out.2 (by decide)) hb1 HG1.out;rw[←amA rfl,←HR1.out] at HC;dsimp only[fQ] at HC;replace HC:=hidL HC;clear k1 k2 k3 k7;go_wp2_with fail;refine HC.out.mono ?_;intro e w9 hp;obtain⟨A8,k8,rfl⟩:=hp.form;obtain⟨k1,k2,k3⟩:=hp.stored (S:=S) HT (fun y h=>.inl h) (.inl rfl) (Nat.le_succ _) x2 rfl (fun h=>by have:=hSw _ h;omega) (fun e=>by have:=hrl _ e;omega) (by omega);obtain⟨r0,r1,r2,r3,f0,f1,f2,f3,lr⟩:=k1.rr4;clear hc0 hc1 hc2 hc3 hc4 hc5 hwl;go_wp2_with fail;exact bodyPost_ret (do_results k2 rfl) rfl k3
 ·--[KN
  have hr:R=(dY 11,s1):=by rw[HR1.out,akP (by show ak<1∨8<ak;omega)]
  subst hr;have d1:(ak==1)=false:=by simpa using k1
  have d2:(ak==2)=false:=by simpa using k2
  have d3:(ak==3)=false:=by simp;omega
  have d4:(ak==4)=false:=by simp;omega
  have d5:(ak==5)=false:=by simp;omega
  have d6:(ak==6)=false:=by simp;omega
  have d7:(ak==7)=false:=by simpa using k7
  have d8:(ak==8)=false:=by simpa using k8
  clear k1 k2 k3 k7 k8;go_wp2_with fail;refine(Qv 11 _).mono ?_;rintro e w8 ⟨rfl,hb8⟩;replace x2:=x2.below hb8 x2.lt;replace HN:=HN.below hb8;replace HT:=HT.via hb8;clear hc0 hc1 hc2 hc3 hc4 hc5 hwl;clear hb8 x1
  (obtain⟨r0,r1,r2,r3,f0,f1,f2,f3,lr⟩:=x2.rr4)
  go_wp2_with fail;change bodyPost _ _ _ _ _ (setCells _ (w.heap.size+1) 0 [O 11,O 0,E0,Z0]);obtain⟨k2,k3⟩:=eD.put (S:=S) (cs:=[O 11,O 0,E0,Z0]) H.out HN HT (fun _ h=>.inl h) (Nat.le_succ _) (fun h=>by have:=hSw _ h;omega) hgw x2 rfl jd.flat;exact bodyPost_ret (do_results k2 rfl) rfl k3
end
section
open Go.Proofs.Tryz
theorem Yt (a:ByteArray):¬ ltS a a:=fun h=>List.lt_irrefl _ ((xu a a).1 h)
theorem aml {a b c:ByteArray}(h:ltS a b)(k:ltS b c):ltS a c:=(xu _ _).2 (List.lt_trans ((xu _ _).1 h) ((xu _ _).1 k))
theorem akN {a b:ByteArray}(h:¬ ltS a b)(hn:a≠b):ltS b a:=by
 rw[xu] at *;rcases List.le_iff_lt_or_eq.1 (List.not_lt.1 h) with h | h
 ·exact h
 ·exact absurd (by obtain⟨⟨a⟩⟩:=a;obtain⟨⟨b⟩⟩:=b;simp at h;simp[h]) hn
theorem UU (r:gD)(rs:List gD)(n:ByteArray):qJ (r::rs) n=if ltS r.name n then qJ rs n else decide (r.name=n):=by
 unfold qJ;rw[vG]
 by_cases h:ltS r.name n <;> simp[h]
theorem abA {n:ByteArray}:∀ {rs:List gD},iD rs→(qJ rs n=true↔∃ r∈rs,r.name=n)
 | [],_=>by simp[qJ,fB]
 | r::rs,hs=>by
  obtain⟨h1,h2⟩:=List.pairwise_cons.1 hs;rw[UU]
  by_cases h:ltS r.name n
  ·rw[if_pos h,abA h2];refine⟨fun ⟨x,hx,e⟩=>⟨x,List.mem_cons_of_mem _ hx,e⟩,fun ⟨x,hx,e⟩=>?_⟩;rcases List.mem_cons.1 hx with rfl | hx
   ·exact absurd h (e ▸ Yt _)
   ·exact⟨x,hx,e⟩
  ·rw[if_neg h,decide_eq_true_eq];refine⟨fun e=>⟨r,List.mem_cons_self,e⟩,fun ⟨x,hx,e⟩=>?_⟩;rcases List.mem_cons.1 hx with rfl | hx
   ·exact e
   ·exact absurd (e ▸ h1 x hx) h
theorem Kl {rs:List gD}{n:ByteArray}(h:qJ rs n=true):(fH rs (fB rs n)).name=n∧fH rs (fB rs n)∈rs:=by
 have hl:=Fe h;unfold qJ at h;rw[List.getElem?_eq_getElem hl] at h;rw[nD hl];exact⟨by simpa using h,List.getElem_mem hl⟩
theorem Fv {n:ByteArray}:∀ {rs:List gD},iD rs→∀ {x y:gD},x∈rs→y∈rs→x.name=n→y.name=n→x=y
 | [],_,_,_,h,_,_,_=>by cases h
 | r::rs,hs,x,y,hx,hy,ex,ey=>by
  obtain⟨h1,h2⟩:=List.pairwise_cons.1 hs;rcases List.mem_cons.1 hx with e | hx <;> rcases List.mem_cons.1 hy with e2 | hy
  ·rw[e,e2]
  ·exact absurd (h1 y hy) (by rw[←e,ex,ey];exact Yt _)
  ·exact absurd (h1 x hx) (by rw[←e2,ex,ey];exact Yt _)
  ·exact Fv h2 hx hy ex ey
theorem Ju {rs:List gD}{k:Nat}{x y:gD}:y∈eY rs k x↔y=x∨y∈rs:=by
 unfold eY;rw[List.mem_append,List.mem_cons];have h:y∈rs↔y∈rs.take k∨y∈rs.drop k:=by rw[←List.mem_append,List.take_append_drop]
 rw[h];refine⟨fun h=>?_,fun h=>?_⟩
 ·rcases h with h | h | h
  ·exact .inr (.inl h)
  ·exact .inl h
  ·exact .inr (.inr h)
 ·rcases h with h | h | h
  ·exact .inr (.inl h)
  ·exact .inl h
  ·exact .inr (.inr h)
theorem afa {rs:List gD}{k:Nat}{x:gD}:(eY rs k x).length=rs.length+1:=by
 unfold eY;rw[List.length_append,List.length_cons,List.length_take,List.length_drop];omega
theorem afc {rs:List gD}{k:Nat}{y:gD}(h:y∈pV rs k):y∈rs:=by
 unfold pV at h;rcases List.mem_append.1 h with h | h
 ·exact List.mem_of_mem_take h
 ·exact List.mem_of_mem_drop h
theorem aeR (rs:List gD)(k:Nat):(pV rs k).Sublist rs:=by
 have h:=List.Sublist.append (List.Sublist.refl (rs.take k)) (List.drop_sublist_drop_left rs (Nat.le_succ k));rw[List.take_append_drop] at h;exact h
theorem akv {rs:List gD}{k:Nat}{x:gD}(h:k≤rs.length):pV (eY rs k x) k=rs:=by
 unfold pV eY;have ht:(rs.take k).length=k:=by rw[List.length_take];omega
 rw[List.take_append_of_le_length (by omega),List.take_of_length_le (by omega),List.drop_append,List.drop_of_length_le (by omega),ht,Nat.add_sub_cancel_left];simp
theorem ajo (r x:gD)(rs:List gD)(k:Nat):eY (r::rs) (k+1) x=r::eY rs k x:=by simp[eY]
theorem Ib {n:ByteArray}{x:gD}(hx:x.name=n):∀ {rs:List gD},iD rs→qJ rs n=false→iD (eY rs (fB rs n) x)
 | [],_,_=>by simp[eY,iD,fB]
 | r::rs,hs,hn=>by
  obtain⟨h1,h2⟩:=List.pairwise_cons.1 hs;rw[UU] at hn;rw[vG]
  by_cases h:ltS r.name n
  ·rw[if_pos h] at hn ⊢;rw[ajo];refine List.pairwise_cons.2 ⟨fun y hy=>?_,Ib hx h2 hn⟩;rcases Ju.1 hy with rfl | hy
   ·rw[hx];exact h
   ·exact h1 y hy
  ·rw[if_neg h] at hn ⊢;have hlt:ltS n r.name:=akN h (by simpa using hn);show iD (x::r::rs);refine List.pairwise_cons.2 ⟨fun y hy=>?_,hs⟩;rw[hx];rcases List.mem_cons.1 hy with rfl | hy
   ·exact hlt
   ·exact aml hlt (h1 y hy)
theorem aiN {rs:List gD}:iD rs↔(rs.map (·.name)).Pairwise ltS:=by unfold iD;rw[List.pairwise_map]
theorem GQ {rs:List gD}{k:Nat}{x:gD}(hx:x.name=(fH rs k).name)(hs:iD rs):iD (rs.set k x):=by
 rw[aiN] at hs ⊢;rw[List.map_set];rcases Nat.lt_or_ge k rs.length with h | h
 ·rw[nD h] at hx;have:(rs.map (·.name)).set k x.name=rs.map (·.name):=by
   apply List.ext_getElem (by simp);intro i h1 h2;rw[List.getElem_set];split
   ·rename_i e;subst e;rw[List.getElem_map];exact hx
   ·rfl
  rw[this];exact hs
 ·rw[List.set_eq_of_length_le (by simpa using h)];exact hs
def Bd (n:Nat)(r:gD):Prop:=0≤r.commit∧r.commit<n∧0≤r.policy∧r.policy≤3∧bJ r.name=true
theorem Bd.more {n m:Nat}{r:gD}(h:Bd n r)(hm:n≤m):Bd m r:=⟨h.1,by have:=h.2.1;omega,h.2.2⟩
theorem gY.to {s:cK}(h:gY s){rs:List gD}(h1:∀ r∈rs,Bd s.cs.length r)(h2:iD rs)(h3:rs.length≤6):gY ⟨s.cs,rs,s.acts⟩ :=
 ⟨h.books,h.parents,h1,h2,h.most.1,h3,h.most.2.2⟩
theorem gY.grow {s:cK}(h:gY s){b:av}{ps:List Int}{rs:List gD}(hg:aB b=0)(hp:ps.length≤2∧∀ p∈ps,0≤p∧p<s.cs.length)(hn:s.cs.length<40)(h1:∀ r∈rs,Bd (s.cs.length+1) r)(h2:iD rs)(h3:rs.length≤6) :
  gY ⟨s.cs++[⟨b,ps⟩],rs,s.acts⟩:=by
 refine⟨fun c hc=>?_,fun i hi=>?_,fun r hr=>?_,h2,?_,h3,h.most.2.2⟩
 ·rcases List.mem_append.1 hc with hc | hc
  ·exact h.books c hc
  ·obtain rfl:=List.mem_singleton.1 hc;exact hg
 ·have hi':i<s.cs.length+1:=by simpa using hi
  rcases Nat.lt_or_ge i s.cs.length with hl | hl
  ·have e:(s.cs++[⟨b,ps⟩])[i]'hi=s.cs[i]:=List.getElem_append_left hl;simp only[e];exact h.parents i hl
  ·obtain rfl:i=s.cs.length:=by omega
   simp only[List.getElem_append_right hl,Nat.sub_self,List.getElem_cons_zero];exact hp
 ·have:=h1 r hr;exact⟨this.1,by have:=this.2.1;simp;omega,this.2.2⟩
 ·simp;omega
theorem adn {n:Nat}{rs:List gD}{k:Nat}{x:gD}(h:∀ r∈rs,Bd n r)(hx:Bd n x):∀ r∈rs.set k x,Bd n r:=by
 intro r hr;rcases List.mem_or_eq_of_mem_set hr with hr | rfl
 ·exact h r hr
 ·exact hx
def Marks (k:Nat)(m m2:List Bool):Prop:=k≤m.length∧k≤m2.length∧∀ j<k,m.getD j false=m2.getD j false
theorem xH {m:List Bool}{i j:Nat}(h:j<m.length):(m.set i true).getD j false=if i=j then true else m.getD j false:=by
 rw[List.getD_eq_getElem?_getD,List.getD_eq_getElem?_getD,List.getElem?_set]
 by_cases e:i=j
 ·subst e;simp[h]
 ·simp[e]
theorem Marks.mark {k i:Nat}{m m2:List Bool}(h:Marks k m m2)(p:Int):Marks k (nK i m p) (nK i m2 p):=by
 refine⟨by rw[Fg];exact h.1,by rw[Fg];exact h.2.1,fun j hj=>?_⟩;unfold nK;split
 ·rw[xH (by have:=h.1;omega),xH (by have:=h.2.1;omega),h.2.2 j hj]
 ·exact h.2.2 j hj
theorem Marks.marks {k i:Nat}:∀ (l:List Int) {m m2:List Bool},Marks k m m2→Marks k (l.foldl (nK i) m) (l.foldl (nK i) m2)
 | [],_,_,h=>h
 | p::l,_,_,h=>Marks.marks l (h.mark p)
theorem BJ {l:List fD}(x:List fD):∀ (k:Nat) {m m2:List Bool},k≤l.length→Marks k m m2→kD (l++x) k m=kD l k m2
 | 0,_,_,_,_=>rfl
 | k+1,m,m2,hk,h=>by
  rw[lS,lS,h.2.2 k (by omega)];have h':Marks k m m2:=⟨by have:=h.1;omega,by have:=h.2.1;omega,fun j hj=>h.2.2 j (by omega)⟩;have hp:kG (l++x) k=kG l k:=by unfold kG;rw[List.getElem?_append_left (by omega)]
  rw[hp,BJ x k (by omega) (Marks.marks (kG l k) h'),BJ x k (by omega) h']
theorem PR {l:List fD}(x:List fD){n:Int}(hn:n<l.length):dZ (l++x) n=dZ l n:=by
 unfold dZ
 by_cases h0:n<0
 ·rw[if_pos (.inl h0),if_pos (.inl h0)]
 ·rw[if_neg (by simp;omega),if_neg (by omega)]
  congr 1
  refine BJ x _ (by omega) ⟨by simp;omega,by simp;omega,fun j hj=>?_⟩;rw[xH (by simp;omega),xH (by simp;omega)];split
  ·rfl
  ·rw[List.getD_eq_getElem?_getD,List.getD_eq_getElem?_getD,List.getElem?_replicate,List.getElem?_replicate,if_pos (by simp;omega),if_pos (by omega)]
theorem Iy {l:List fD}(x:List fD){i:Int}(h0:0≤i)(hi:i<l.length):ib (l++x) i=ib l i:=by
 unfold ib;rw[List.getElem?_append_left (by omega)]
theorem Co {α β:Type}{f g:α→List β}:∀ {l:List α},(∀ x∈l,f x=g x)→l.flatMap f=l.flatMap g
 | [],_=>rfl
 | a::l,h=>by rw[List.flatMap_cons,List.flatMap_cons,h a List.mem_cons_self,Co fun x hx=>h x (List.mem_cons_of_mem _ hx)]
theorem adI {l:List fD}(x:List fD){n p:Int}(hn:n<l.length):ji (l++x) n p=ji l n p:=by
 unfold ji;rw[PR x hn]
 by_cases hp:p=0
 ·rw[if_pos hp,if_pos hp]
 rw[if_neg hp,if_neg hp]
 congr 1
 refine Co fun c hc=>?_
 have h1:=xL hc;rw[PR x h1.2.2];refine Co fun a ha=>?_
 have h2:=xL ha;unfold Ga;rw[Iy x h2.1 h2.2.2]
 by_cases e:a=c
 ·rw[if_pos e,if_pos e]
 rw[if_neg e,if_neg e];refine Co fun t _=>?_
 unfold abB;rw[Iy x h2.1 h2.2.2,Iy x h1.1 h1.2.2]
def iL (s:cK):Prop:=∀ r∈s.rs,ji s.cs r.commit r.policy=[]
theorem Dm (l:List fD)(n:Int):ji l n 0=[]:=by unfold ji;rw[if_pos rfl]
structure Step (s:cK) (a:mG) (r:kR × cK):Prop where
 ok:gY r.2
 keep:iL r.2
 acts:r.2.acts=s.acts
 no:r.1.code≠0→r.2=s
 plain:r.1.code≠0→r.1.n=0∧r.1.text=⟨#[]⟩
 grow:r.2.cs=s.cs∨∃ c,r.2.cs=s.cs++[c]∧r.1.code=0∧r.1.n=s.cs.length∧(a.kind=1∨a.kind=4)
 one:∀ x∈r.2.rs,x∈s.rs∨x.name=a.name
 old:∀ y∈s.rs,y.name=a.name→(a.kind=1∨a.kind=4∨a.kind=5)→y.commit≠a.n→r.1.code≠0
theorem Step.err {s:cK}{a:mG}{x:kR}(h:gY s)(hk:iL s)(h1:x.code≠0)(h2:x.n=0∧x.text=⟨#[]⟩):Step s a (x,s) :=
 ⟨h,hk,rfl,fun _=>rfl,fun _=>h2,.inl rfl,fun _ hx=>.inl hx,fun _ _ _ _ _=>h1⟩
theorem Step.none {s:cK}{a:mG}{e:Int}(h:gY s)(hk:iL s)(h1:e≠0):Step s a (dY e,s):=Step.err h hk h1 ⟨rfl,rfl⟩
theorem Step.refs {s:cK}{a:mG}{x:kR}{rs:List gD}(h:gY s)(hk:iL s)(h0:x.code=0)(hr:∀ r∈rs,Bd s.cs.length r)(hs:iD rs)(hl:rs.length≤6)(hb:∀ r∈rs,r∈s.rs∨r.name=a.name∧ji s.cs r.commit r.policy=[])
  (ho:∀ y∈s.rs,y.name=a.name→(a.kind=1∨a.kind=4∨a.kind=5)→y.commit=a.n):Step s a (x,⟨s.cs,rs,s.acts⟩) :=
 ⟨h.to hr hs hl,fun r hr=>(hb r hr).elim (hk r) (·.2),rfl,fun e=>absurd h0 e,fun e=>absurd h0 e,.inl rfl,fun r hr=>(hb r hr).imp id (·.1),fun y hy e1 e2 e3=>absurd (ho y hy e1 e2) e3⟩
theorem Step.add {s:cK}{a:mG}{b:av}{ps:List Int}{rs:List gD}(h:gY s)(hk:iL s)(hg:aB b=0)(hp:ps.length≤2∧∀ p∈ps,0≤p∧p<s.cs.length)(hn:s.cs.length<40)(hr:∀ r∈rs,Bd (s.cs.length+1) r)(hs:iD rs)(hl:rs.length≤6)
  (hb:∀ r∈rs,r∈s.rs∨r.name=a.name∧ji (s.cs++[⟨b,ps⟩]) r.commit r.policy=[]) (ho:∀ y∈s.rs,y.name=a.name→y.commit=a.n) (ha:a.kind=1∨a.kind=4):Step s a (oJ s.cs.length,⟨s.cs++[⟨b,ps⟩],rs,s.acts⟩) :=
 ⟨h.grow hg hp hn hr hs hl,fun r hr=>by
  rcases hb r hr with h1 | h1
  ·show ji (s.cs++_) _ _=[];rw[adI _ (h.refs r h1).2.1];exact hk r h1
  ·exact h1.2,rfl,fun e=>absurd rfl e,fun e=>absurd rfl e,.inr ⟨_,rfl,rfl,rfl,ha⟩,fun r hr=>(hb r hr).imp id (·.1),fun y hy e1 _ e3=>absurd (ho y hy e1) e3⟩
section
variable {s:cK}{a:mG}
theorem Vg {k:Nat}{b:av}{ps:List Int}(h:gY s)(hk:iL s)(hl:k<s.rs.length)(hnm:(fH s.rs k).name=a.name)(hco:(fH s.rs k).commit=a.n)(hg:aB b=0)(hp:ps.length≤2∧∀ p∈ps,0≤p∧p<s.cs.length)(ha:a.kind=1∨a.kind=4) :
  Step s a (wP s k b ps):=by
 have hm:fH s.rs k∈s.rs:=by rw[nD hl];exact List.getElem_mem hl
 have hro:=h.refs _ hm;unfold wP;split
 ·exact Step.none h hk (by decide)
 rename_i h1
 split
 ·exact Step.err h hk (by simp) ⟨rfl,rfl⟩
 rename_i h2
 have h2':=Classical.byContradiction h2;refine Step.add h hk hg hp (by omega) (adn (fun r hr=>Bd.more (h.refs r hr) (by omega)) ⟨by simp,by simp;omega,hro.2.2⟩) (GQ rfl h.sorted) (by rw[rF,List.length_set];exact h.most.2.1) (fun r hr=>?_) (fun y hy e=>?_) ha
 ·rcases List.mem_or_eq_of_mem_set hr with hr | rfl
  ·exact .inl hr
  ·exact .inr ⟨hnm,h2'⟩
 ·rw[Fv h.sorted hy hm e hnm];exact hco
theorem aaT (h:gY s)(hk:iL s)(ha:a.kind=1):Step s a (uP s a):=by
 unfold uP
 by_cases h1:bJ a.name=false
 ·rw[if_pos h1];exact Step.none h hk (by decide)
 rw[if_neg h1]
 by_cases h2:(iZ (bytes a.text)).2≠0
 ·rw[if_pos h2];exact Step.none h hk h2
 rw[if_neg h2];have hg:=yR (Classical.byContradiction h2)
 by_cases h3:qJ s.rs a.name=true
 ·rw[if_pos h3];obtain⟨e1,e2⟩:=Kl h3
  by_cases h4:(fH s.rs (fB s.rs a.name)).commit≠a.n
  ·rw[if_pos h4];exact Step.none h hk (by decide)
  rw[if_neg h4];have h4':=Classical.byContradiction h4;refine Vg h hk (Fe h3) e1 h4' hg ⟨by simp,fun p hp=>?_⟩ (.inl ha);obtain rfl:=List.mem_singleton.1 hp;have:=h.refs _ e2;rw[h4'] at this;exact⟨this.1,this.2.1⟩
 rw[if_neg h3];have h3':qJ s.rs a.name=false:=by simpa using h3
 have hno:∀ y∈s.rs,y.name≠a.name:=fun y hy e=>h3 ((abA h.sorted).2 ⟨y,hy,e⟩)
 by_cases h4:a.n ≠ -1
 ·rw[if_pos h4];exact Step.none h hk (by decide)
 rw[if_neg h4]
 by_cases h5:6≤s.rs.length
 ·rw[if_pos h5];exact Step.none h hk (by decide)
 rw[if_neg h5];have hpl:=uH a.name s.rs;have hri:=UN (x:=⟨a.name,-1,0⟩) hpl;have hsl:∀ x:gD,(eY s.rs (fB s.rs a.name) ⟨a.name,-1,0⟩).set (fB s.rs a.name) x=eY s.rs (fB s.rs a.name) x:=by
  intro x;have ht:(s.rs.take (fB s.rs a.name)).length=fB s.rs a.name:=by rw[List.length_take];omega
  unfold eY;rw[List.set_append_right _ _ (by omega),ht,Nat.sub_self,List.set_cons_zero]
 dsimp only
 by_cases h6:40≤s.cs.length
 ·have e:wP ⟨s.cs,eY s.rs (fB s.rs a.name) ⟨a.name,-1,0⟩,s.acts⟩ (fB s.rs a.name) (iZ (bytes a.text)).1 []=(dY 12,⟨s.cs,eY s.rs (fB s.rs a.name) ⟨a.name,-1,0⟩,s.acts⟩):=by rw[wP,if_pos h6]
  rw[e,if_pos (by simp[dY])];dsimp only;rw[akv hpl];exact Step.none h hk (by decide)
 by_cases h7:ji (s.cs++[⟨(iZ (bytes a.text)).1,[]⟩]) s.cs.length 0≠[]
 ·exact absurd (Dm _ _) h7
 have e:wP ⟨s.cs,eY s.rs (fB s.rs a.name) ⟨a.name,-1,0⟩,s.acts⟩ (fB s.rs a.name) (iZ (bytes a.text)).1 []=(oJ s.cs.length,⟨s.cs++[⟨(iZ (bytes a.text)).1,[]⟩],eY s.rs (fB s.rs a.name) ⟨a.name,s.cs.length,0⟩,s.acts⟩):=by
  rw[wP,if_neg h6];dsimp only;rw[hri,if_neg h7,rF,hri,hsl]
 rw[e,if_neg (by simp[oJ])];refine Step.add h hk hg ⟨by simp,fun p hp=>by cases hp⟩ (by omega) (fun r hr=>?_) (Ib (n:=a.name) rfl h.sorted h3') (by rw[afa];omega) (fun r hr=>?_) (fun y hy e=>absurd e (hno y hy)) (.inl ha)
 ·rcases Ju.1 hr with rfl | hr
  ·exact⟨by simp,by simp;omega,by simp,by simp,by simpa using h1⟩
  ·exact Bd.more (h.refs r hr) (by omega)
 ·rcases Ju.1 hr with rfl | hr
  ·exact .inr ⟨rfl,Dm _ _⟩
  ·exact .inl hr
theorem aat (h:gY s)(hk:iL s)(ha:a.kind=2):Step s a (dY (lJ s a).1,(lJ s a).2):=by
 unfold lJ
 by_cases h1:bJ a.name=false
 ·rw[if_pos h1];exact Step.none (e:=1) h hk (by simp)
 rw[if_neg h1]
 by_cases h2:isC s a.n=false
 ·rw[if_pos h2];exact Step.none (e:=3) h hk (by simp)
 rw[if_neg h2]
 by_cases h3:qJ s.rs a.name=true
 ·rw[if_pos h3];exact Step.none (e:=4) h hk (by simp)
 rw[if_neg h3]
 by_cases h5:6≤s.rs.length
 ·rw[if_pos h5];exact Step.none (e:=12) h hk (by simp)
 rw[if_neg h5];have h2':0≤a.n∧a.n<s.cs.length:=by simpa[isC] using h2
 refine Step.refs h hk rfl (fun r hr=>?_) (Ib (n:=a.name) rfl h.sorted (by simpa using h3)) (by rw[afa];omega) (fun r hr=>?_) (fun _ _ _ e=>by omega)
 ·rcases Ju.1 hr with rfl | hr
  ·exact⟨h2'.1,h2'.2,by simp,by simp,by simpa using h1⟩
  ·exact h.refs r hr
 ·rcases Ju.1 hr with rfl | hr
  ·exact .inr ⟨rfl,Dm _ _⟩
  ·exact .inl hr
theorem VG {k:Nat}{tt:Int}(h:gY s)(hk:iL s)(hl:k<s.rs.length)(hnm:(fH s.rs k).name=a.name)(hco:(fH s.rs k).commit=a.n):Step s a (moveF s k tt):=by
 have hm:fH s.rs k∈s.rs:=by rw[nD hl];exact List.getElem_mem hl
 unfold moveF
 by_cases h1:isC s tt=false
 ·rw[if_pos h1];exact Step.none h hk (by decide)
 rw[if_neg h1]
 by_cases h2:ji s.cs tt (fH s.rs k).policy≠[]
 ·rw[if_pos h2];exact Step.err h hk (by simp) ⟨rfl,rfl⟩
 rw[if_neg h2];have h1':0≤tt∧tt<s.cs.length:=by simpa[isC] using h1
 refine Step.refs h hk rfl (adn h.refs ⟨h1'.1,h1'.2,(h.refs _ hm).2.2⟩) (GQ rfl h.sorted) (by rw[rF,List.length_set];exact h.most.2.1) (fun r hr=>?_) (fun y hy e _=>by rw[Fv h.sorted hy hm e hnm];exact hco);rcases List.mem_or_eq_of_mem_set hr with hr | rfl
 ·exact .inl hr
 ·exact .inr ⟨hnm,Classical.byContradiction h2⟩
theorem adW {k:Nat}{other:Int}(h:gY s)(hk:iL s)(hl:k<s.rs.length)(hnm:(fH s.rs k).name=a.name)(hco:(fH s.rs k).commit=a.n)(ho:0≤other∧other<s.cs.length)(ha:a.kind=4):Step s a (zC s k other):=by
 have hm:fH s.rs k∈s.rs:=by rw[nD hl];exact List.getElem_mem hl
 have hro:=h.refs _ hm;unfold zC;dsimp only;generalize (if 0≤xz s.cs (fH s.rs k).commit other then ib s.cs (xz s.cs (fH s.rs k).commit other) else [])=was;split
 ·rename_i h1
  exact Step.err h hk h1 ⟨rfl,rfl⟩
 ·rename_i h1
  refine Vg h hk hl hnm hco (Td (Classical.byContradiction h1)) ⟨by simp,fun p hp=>?_⟩ (.inr ha);rcases List.mem_cons.1 hp with rfl | hp
  ·exact⟨hro.1,hro.2.1⟩
  ·obtain rfl:=List.mem_singleton.1 hp;exact ho
theorem abG (h:gY s)(hk:iL s)(hh:qJ s.rs a.name=true)(ha:3≤a.kind∧a.kind≤6):Step s a (uQ s (fB s.rs a.name) a):=by
 obtain⟨hnm,hm⟩:=Kl hh;have hl:=Fe hh;have hro:=h.refs _ hm;have hon:∀ y∈s.rs,y.name=a.name→y=fH s.rs (fB s.rs a.name):=fun y hy e=>Fv h.sorted hy hm e hnm
 generalize fB s.rs a.name=k at *;unfold uQ
 by_cases h6:a.kind=6
 ·rw[if_pos h6];exact Step.refs h hk rfl (fun r hr=>h.refs r (afc hr)) (List.Pairwise.sublist (aeR _ _) h.sorted) (Nat.le_trans (aeR _ _).length_le h.most.2.1) (fun r hr=>.inl (afc hr)) (fun _ _ _ e=>by omega)
 rw[if_neg h6]
 by_cases h3:a.kind=3
 ·rw[if_pos h3]
  by_cases h4:a.n<0∨3<a.n
  ·rw[if_pos h4];exact Step.none h hk (by decide)
  rw[if_neg h4]
  by_cases h5:ji s.cs (fH s.rs k).commit a.n≠[]
  ·rw[if_pos h5];exact Step.err h hk (by simp) ⟨rfl,rfl⟩
  rw[if_neg h5];refine Step.refs h hk rfl (adn h.refs ⟨hro.1,hro.2.1,by simp;omega,by simp;omega,hro.2.2.2.2⟩) (GQ rfl h.sorted) (by rw[List.length_set];exact h.most.2.1) (fun r hr=>?_) (fun _ _ _ e=>by omega);rcases List.mem_or_eq_of_mem_set hr with hr | rfl
  ·exact .inl hr
  ·exact .inr ⟨hnm,Classical.byContradiction h5⟩
 rw[if_neg h3]
 by_cases h7:(fH s.rs k).commit≠a.n
 ·rw[if_pos h7];exact Step.none h hk (by decide)
 rw[if_neg h7];have h7':=Classical.byContradiction h7
 by_cases h4:a.kind=4
 ·rw[if_pos h4]
  by_cases h8:qJ s.rs a.other=false
  ·rw[if_pos h8];exact Step.none h hk (by decide)
  rw[if_neg h8];have hot:=h.refs _ (Kl (by simpa using h8)).2
  by_cases h9:dV (dZ s.cs (fH s.rs k).commit) (fH s.rs (fB s.rs a.other)).commit=true
  ·rw[if_pos h9];exact Step.refs h hk rfl h.refs h.sorted h.most.2.1 (fun r hr=>.inl hr) (fun y hy e _=>by rw[hon y hy e];exact h7')
  rw[if_neg h9];split
  ·exact adW h hk hl hnm h7' ⟨hot.1,hot.2.1⟩ h4
  ·exact VG h hk hl hnm h7'
 rw[if_neg h4];exact VG h hk hl hnm h7'
theorem ain (h:gY s)(hk:iL s):Step s a (zw s a):=by
 unfold zw
 by_cases h1:a.kind=1
 ·rw[if_pos h1];exact aaT h hk h1
 rw[if_neg h1]
 by_cases h2:a.kind=2
 ·rw[if_pos h2];exact aat h hk h2
 rw[if_neg h2]
 by_cases h3:3≤a.kind∧a.kind≤6
 ·rw[if_pos h3]
  by_cases h4:qJ s.rs a.name=false
  ·rw[if_pos h4];exact Step.none h hk (by decide)
  rw[if_neg h4];exact abG h hk (by simpa using h4) h3
 rw[if_neg h3]
 by_cases h7:a.kind=7
 ·rw[if_pos h7];have hs:=Step.refs (a:=a) (x:=Nh s a) (rs:=s.rs) h hk;unfold Nh at hs ⊢;split
  ·exact Step.none h hk (by decide)
  split
  ·rename_i e;exact Step.none h hk e
  ·rename_i e1 e2
   rw[if_neg e1,if_neg e2] at hs;exact hs rfl h.refs h.sorted h.most.2.1 (fun r hr=>.inl hr) (fun _ _ _ e=>by omega)
 rw[if_neg h7]
 by_cases h8:a.kind=8
 ·rw[if_pos h8];have hs:=Step.refs (a:=a) (x:=CL s a) (rs:=s.rs) h hk;unfold CL at hs ⊢;dsimp only at hs ⊢;split
  ·exact Step.none h hk (by decide)
  split
  ·rename_i e;exact Step.none h hk e
  split
  ·rename_i e;exact Step.none h hk e
  split
  ·rename_i e;exact Step.none h hk e
  ·rename_i e1 e2 e3 e4
   rw[if_neg e1,if_neg e2,if_neg e3,if_neg e4] at hs;exact hs rfl h.refs h.sorted h.most.2.1 (fun r hr=>.inl hr) (fun _ _ _ e=>by omega)
 rw[if_neg h8];exact Step.none h hk (by decide)
end
theorem gY.amQ {s:cK}(h:gY s){n:Int}(h0:0≤n)(h1:n≤200):gY ⟨s.cs,s.rs,n⟩:=⟨h.books,h.parents,h.refs,h.sorted,h.most.1,h.most.2.1,h0,h1⟩
theorem gY.new:gY cK.new :=
 gY.mk (fun _ h=>by cases h) (fun i h=>absurd h (Nat.not_lt_zero i)) (fun _ h=>by cases h) List.Pairwise.nil ⟨by simp[cK.new],by simp[cK.new],by simp[cK.new],by simp[cK.new]⟩
theorem iL.new:iL .new:=fun _ h=>by cases h
theorem OU {s:cK}{a:mG}(h:gY s)(hk:iL s)(hn:s.acts<200):Step ⟨s.cs,s.rs,s.acts+1⟩ a (doF s a):=by
 unfold doF;rw[if_neg (by omega)];exact ain (h.amQ (by have:=h.most.2.2.1;omega) (by omega)) hk
theorem akF {s:cK}{a:mG}(hn:200≤s.acts):doF s a=(dY 12,s):=by unfold doF;rw[if_pos hn]
theorem Uw {s:cK}{a:mG}(h:gY s)(hk:iL s):gY (doF s a).2∧iL (doF s a).2:=by
 rcases Int.lt_or_le s.acts 200 with hn | hn
 ·have:=OU (a:=a) h hk hn;exact⟨this.ok,this.keep⟩
 ·rw[akF hn];exact⟨h,hk⟩
end
section
open Go.Proofs.Tryz
def ajq:ByteArray:=⟨#[109,101,115,115,97,103,101,32,98,123,49,32,111,110,101,32,105,110,116,32,120,59,125]⟩
def ajT:ByteArray:=⟨#[109,101,115,115,97,103,101,32,98,123,49,32,111,110,101,32,116,101,120,116,32,120,59,125]⟩
def Iu:mG:=⟨1,-1,0,⟨#[97]⟩,⟨#[]⟩,ajq⟩
def LZ:mG:=⟨3,3,0,⟨#[97]⟩,⟨#[]⟩,⟨#[]⟩⟩
def Sz:mG:=⟨1,0,0,⟨#[97]⟩,⟨#[]⟩,ajT⟩
def Ei (p n:Int):cK:=⟨[⟨[⟨⟨#[98]⟩,false,[⟨1,⟨#[120]⟩,⟨#[]⟩,2,1⟩],[],[]⟩],[]⟩],[⟨⟨#[97]⟩,0,p⟩],n⟩
theorem Xj:doF .new Iu=(oJ 0,Ei 0 1):=by kernel_rfl
theorem aeD:doF (Ei 0 1) LZ=(oJ 0,Ei 3 2):=by kernel_rfl
theorem akJ:doF (Ei 3 2) Sz=(⟨8,0,⟨#[]⟩,[⟨⟨#[98]⟩,1,1⟩]⟩,Ei 3 3):=by kernel_rfl
open Go.RowKit
def OG {α:Type}(R:Rel α)(e sz base:Nat)(w:World)(vt:Value)(acc:List α):Prop :=
 ∃ T:Nat→Prop,(∀ g,T g→base≤g∧g<w.heap.size)∧Own base e sz R T w vt acc
section
variable {α:Type}{R:Rel α}{e sz base:Nat}{w w':World}{vt v':Value}{acc:List α}
theorem OG.nil (R:Rel α)(e sz base:Nat)(w:World):OG R e sz base w (Z0) []:=⟨fun _=>False,fun _ h=>h.elim,Own.dJ _ _ _ _ _ _⟩
theorem OG.below (h:OG R e sz base w vt acc)(hR:Fair R)(hb:Below w.heap.size w w'):OG R e sz base w' vt acc:=by
 obtain⟨T,h1,h2⟩:=h;exact⟨T,fun g hg=>⟨(h1 g hg).1,Nat.lt_of_lt_of_le (h1 g hg).2 hb.size⟩,h2.below hR hb⟩
theorem OG.alloc (h:OG R e sz base w vt acc)(hR:Fair R)(o:Obj):OG R e sz base (w.alloc o) vt acc:=h.below hR ((Below.refl _ _).alloc (Nat.le_refl _) o)
theorem OG.setCell (h:OG R e sz base w vt acc)(hR:Fair R){p:Addr}(u:Value)(hp:p.block<base):OG R e sz base (w.setCell p u) vt acc:=by
 obtain⟨T,h1,h2⟩:=h;exact⟨T,fun g hg=>⟨(h1 g hg).1,by simpa[World.setCell] using(h1 g hg).2⟩,h2.setCell hR u (fun e=>by have:=(h2.lt e).1;omega) (fun e=>by have:=(h1 _ e).1;omega)⟩
theorem OG.lt (h:OG R e sz base w vt acc){k:Nat}(hk:vt.ownBlock=some k):base≤k∧k<w.heap.size:=by obtain⟨_,_,h⟩:=h;exact h.lt hk
theorem OG.form (h:OG R e sz base w vt acc):∃ A cap,vt=.slice A acc.length cap∧acc.length≤cap:=by obtain⟨_,_,h⟩:=h;exact h.form
theorem OG.take (h:OG R e sz base w vt acc)(hR:Fair R){p q:Nat}{es:List Value}{t:α}(hr:R (fun g=>p≤g∧g<q) w es t)(hp:base≤p)(hq:q≤w.heap.size)(ht:∀ k,vt.ownBlock=some k→k<p∨q≤k) :
  ∃ T:Nat→Prop,(∀ g,T g→base≤g∧g<w.heap.size)∧Own base e sz R T w vt acc∧R T w es t:=by
 obtain⟨T,h1,h3⟩:=h;have h30:=h3;obtain⟨_,_,_,h3n,_⟩:=h30;refine⟨fun g=>T g∨(p≤g∧g<q),?_,h3.mono hR (fun g hg _=>.inl hg) ?_,hR.mono hr (fun g hg _=>.inr hg)⟩
 ·rintro g (hg | hg)
  ·exact h1 g hg
  ·exact⟨by omega,by omega⟩
 ·rintro k hk (hg | hg)
  ·exact h3n k hk hg
  ·have:=ht k hk;omega
theorem OG.made {T:Nat→Prop}(h1:∀ g,T g→base≤g∧g<w.heap.size){acc':List α}{row:Option Nat}(hg:w.grownBy w' row)(ho:Own base e sz R T w' v' acc'):OG R e sz base w' v' acc' :=
 ⟨T,fun g hg'=>⟨(h1 g hg').1,Nat.lt_of_lt_of_le (h1 g hg').2 hg.size⟩,ho⟩
theorem OG.read (h:OG R e sz base w vt acc)(hR:Fair R){S:Nat→Prop}(hS:∀ g,base≤g→S g){by_:Nat}(hb:acc.length*by_≤140737488351232):RSl sz by_ R S w [vt] acc:=by
 obtain⟨T,h1,h2⟩:=h;exact h2.read hR (fun g hg _=>hS g (h1 g hg).1) (fun k hk=>hS k (h2.lt hk).1) hb
end
theorem Bi {W:World}{a:Act}{g:Nat}{v:Value}(hb:Box W g 38 [v])(h2:a.tmps.getD 2 undef=.pointer (some ⟨g,0,none⟩)) :
  (results f20 a.tmps).run prog W=.ok (.agg #[v]) W:=by
 have c0:LL W g 0 v:=hb.cell 0;simp only[Array.getD_eq_getD_getElem?] at h2;simp[results,results20,go_sem,h2,c0]
def Ql (w:World)(b:av)(e:Ending)(w':World):Prop:=∃ A cap,e=.returned (.agg #[.slice A b.length cap])∧RSl 5 96 ah (New w) w' [.slice A b.length cap] b∧Below w.heap.size w w'
theorem acL (S:Nat→Prop)(vb:Value)(b:av)(w:World)(hb0:RSl 5 96 ah S w [vb] b) :
  Calls prog 20 #[.agg #[vb]] w (Ql w b):=by
 obtain⟨A,cap,rfl,hlc,hlb⟩:=hb0.form;have HB:=hidL hb0;obtain⟨x1,x2,x3,x4⟩:=kW w [.slice A b.length cap] [Z0] [Z0] 38 38 38;clear hb0;go_enter func20,ntmps20;go_wp2_with fail;go_loopw [9] (fun i wr=>∃ (k:Nat) (vt:Value),i=O k∧k≤b.length∧Box wr w.heap.size 38 [.slice A b.length cap]∧Box wr (w.heap.size+1) 38 [Z0]∧Box wr (w.heap.size+1+1) 38 [vt]∧OG ah 53 5 (w.heap.size+1+1+1) wr vt (b.take k)∧Below w.heap.size w wr) (fun i _=>b.length-(intOf i).toNat)
 case atStart=>exact⟨0,_,rfl,by omega,x1,x2,x3,OG.nil _ _ _ _ _,x4⟩
 case round =>
  clear x1 x2 x3 x4;obtain⟨k,vt,rfl,hk,hb1,hb2,hb3,hot,hb⟩:=hrel
  by_cases hlt:k<b.length
  ·obtain⟨g,o,es,rfl,hS,hg,hes,hr,hc0⟩:=HB.out.at_ hlt;have hc:=hc0.keep (az.of_below hb) hS;have hgw:g<wr.heap.size:=Nat.lt_of_lt_of_le hg hb.size;have htk:b.take (k+1)=b.take k++[b[k]]:=List.take_succ_eq_append_getElem hlt;obtain⟨t,hte⟩:=exE (b[k]);rw[←hte] at hr htk;obtain⟨A1,k1,A2,k2,A3,k3,rfl,hf,hgo,hi⟩:=hr.parts;obtain⟨_,_,hff,hflc,hflb⟩:=hf.form;obtain⟨_,_,hgg,hglc,hglb⟩:=hgo.form;obtain⟨_,_,hii,hilc,hilb⟩:=hi.form;have q0:=hc.a0 rfl;have q1:=hc.at_ 1 rfl;have q2:=hc.at_ 2 rfl;have q3:=hc.at_ 3 rfl;have q4:=hc.at_ 4 rfl;have HF:=hidL hf;have HG:=hidL hgo;have HI:=hidL hi;clear hc hc0 hte hr hf hgo hi hff hgg hii;have hbl:(b.take k).length=k:=by rw[List.length_take];omega
   obtain⟨acc,hacc⟩:=exE (b.take k);rw[←hacc] at hot htk hbl;have HTK:=hidL htk;have Hbl:=hidL hbl;clear hacc htk hbl;have hsz3:w.heap.size+1+1+1≤wr.heap.size:=by have:=hb3.lt;omega
   have hwa:=hb.alloc hb.size (.cells (TT t A1 k1 A2 k2 A3 k3).toArray 53);have b1:=hb1.alloc (.cells (TT t A1 k1 A2 k2 A3 k3).toArray 53);have b2:=hb2.alloc (.cells (TT t A1 k1 A2 k2 A3 k3).toArray 53);have b3:=hb3.alloc (.cells (TT t A1 k1 A2 k2 A3 k3).toArray 53);have hota:=hot.alloc ah.fair (.cells (TT t A1 k1 A2 k2 A3 k3).toArray 53);have zb:Box (wr.alloc (.cells (TT t A1 k1 A2 k2 A3 k3).toArray 53)) wr.heap.size 53 (TT t A1 k1 A2 k2 A3 k3):=Box.new wr _ _;have hvl:∀ k,vt.ownBlock=some k→k<wr.heap.size:=fun k hk=>(hot.lt hk).2
   have Hot:=hidL hot;have hbx:Below wr.heap.size wr (wr.alloc (.cells (TT t A1 k1 A2 k2 A3 k3).toArray 53)):=(Below.refl _ _).alloc (Nat.le_refl _) _;have HB1:=hidL hb1;have HB2:=hidL hb2;have HB3:=hidL hb3;clear hb1 hb2 hb3 hot;go_wp2_with fail;have hzs:(wr.alloc (.cells (TT t A1 k1 A2 k2 A3 k3).toArray 53)).heap.size=wr.heap.size+1:=by simp
   obtain⟨X,hX⟩:=exE wr.heap.size;rw[←hX] at zb hzs hbx ⊢;have HX:=hidL hX;have hXw:w.heap.size+1+1+1≤X:=by omega
   have hzs1:X+1≤(wr.alloc (.cells (TT t A1 k1 A2 k2 A3 k3).toArray 53)).heap.size:=by omega
   have hlt3:∀ k,vt.ownBlock=some k→k<X:=fun k hk=>by rw[hX];exact hvl k hk
   generalize wr.alloc (.cells (TT t A1 k1 A2 k2 A3 k3).toArray 53)=W0 at *;clear hX hzs hb q0 q1 q2 q3 q4 hgw hvl;have HSK:=hidL (fun (W':World) (h:Box W' X 53 (TT t A1 k1 A2 k2 A3 k3))=>(⟨h.cell 2,h.cell 3,h.cell 4⟩:LL W' X 2 (.slice A1 t.fields.length k1)∧LL W' X 3 (.slice A2 t.gone.length k2)∧LL W' X 4 (.slice A3 t.items.length k3)));have hS:=HSK.out W0.drew zb.drew;refine aY (fun W'=>LL W' X 2 (.slice A1 t.fields.length k1)∧LL W' X 3 (.slice A2 t.gone.length k2)∧LL W' X 4 (.slice A3 t.items.length k3)) 10 (by kernel_rfl) ?_;apply tkL 0 hS;apply tkL 1 hS;apply tkL 3 hS;apply tkL 4 hS;apply tkL 6 hS;apply tkL 7 hS
   try simp only[pu]
   have hw0:=au hwa;have hx0:=au hbx;have hfs:=(RSl.fair aH.fair).below HF.out hw0;refine anq 2 (fun K hK=>?_);go_simp;refine(cloneField_any _ _ t.fields _ hfs).mono ?_;rintro e w1 ⟨v1,rfl,ho1,gw1⟩;replace ho1:=(Own.flat ho1).base (show X+1≤W0.drew.heap.size from hzs1);have hs1:X+1≤w1.heap.size:=Nat.le_trans hzs1 gw1.size;have z1:=zb.drew.below gw1 zb.lt;have hw1:=aa hw0 gw1 hw0.size;have hx1:=aa hx0 gw1 (show X≤W0.heap.size by omega);have hgs:=(RSl.fair aQ.fair).below HG.out hw1;have hS:=HSK.out w1 z1;refine hK.out _ _ (fun _=>hS) ?_
   try simp only[pu]
   apply tkL 9 hS
   try simp only[pu]
   refine anq 5 (fun K hK=>?_);go_simp;refine(cloneInt_any _ _ t.gone _ hgs).mono ?_;rintro e w2 ⟨v2,rfl,ho2,gw2⟩;replace ho2:=(Own.flat ho2).base hs1;have hs2:X+1≤w2.heap.size:=Nat.le_trans hs1 gw2.size;have z2:=z1.below gw2 z1.lt;have hw2:=aa hw1 gw2 hw1.size;have hx2:=aa hx1 gw2 (by omega);have ho12:=ho1.below aH.fair gw2;have his:=(RSl.fair aO.fair).below HI.out hw2;have hS:=HSK.out w2 z2;refine hK.out _ _ (fun _=>hS) ?_
   try simp only[pu]
   refine anq 8 (fun K hK=>?_);go_simp;refine(cloneItem_any _ _ t.items _ his).mono ?_;rintro e w3 ⟨v3,rfl,ho3,gw3⟩;replace ho3:=(Own.flat ho3).base hs2;have hs3:X+1≤w3.heap.size:=Nat.le_trans hs2 gw3.size;have z3:=z2.below gw3 z2.lt;have hw3:=aa hw2 gw3 hw2.size;have hx3:=aa hx2 gw3 (by omega);have ho13:=ho12.below aH.fair gw3;have ho23:=ho2.below aQ.fair gw3;have hS:=HSK.out w3 z3;obtain⟨P1,p1,rfl,-⟩:=ho13.form;obtain⟨P2,p2,rfl,-⟩:=ho23.form;obtain⟨P3,p3,rfl,-⟩:=ho3.form;refine hK.out _ _ (fun _=>hS) ?_
   try simp only[pu]
   have f2:=z3.frozen 2;have f3:=z3.frozen 3;have f4:=z3.frozen 4;have d2:=z3.c 2 rfl;have d3:=z3.c 3 rfl;have d4:=z3.c 4 rfl;have lz:=z3.lt;clear ho1 gw1 ho2 gw2 gw3 ho12 hS;refine anq 10 (fun K hK=>?_);go_simp;refine hK.out _ _ nay ?_
   try simp only[pu]
   refine anq 11 (fun K hK=>?_);go_simp;refine hK.out _ _ nay ?_
   try simp only[pu]
   refine anq 12 (fun K hK=>?_);go_simp;refine hK.out _ _ nay ?_
   try simp only[pu]
   refine anq 13 (fun K hK=>?_);go_simp;refine hK.out _ _ nay ?_
   try simp only[pu]
   refine anq 14 (fun K hK=>?_);go_simp;refine hK.out _ _ nay ?_
   try simp only[pu]
   refine ani ?_ _;have hrt:ah (fun g=>X+1≤g∧g<w3.heap.size) w3 (TT t P1 p1 P2 p2 P3 p3) t :=
    ⟨_,_,_,rfl,ho13.read aH.fair (fun _ h _=>h.elim) (fun k hk=>ho13.lt hk) (by omega),ho23.read aQ.fair (fun _ h _=>h.elim) (fun k hk=>ho23.lt hk) (by omega),ho3.read aO.fair (fun _ h _=>h.elim) (fun k hk=>ho3.lt hk) (by omega)⟩
   have hrF:=ah.fair.keep hrt (((az.setCell w3 (a:=⟨X,2,none⟩) (.slice P1 t.fields.length p1) (by show ¬ (X+1≤X∧_);omega)).trans (az.setCell _ (a:=⟨X,3,none⟩) (.slice P2 t.gone.length p2) (by show ¬ (X+1≤X∧_);omega))).trans (az.setCell _ (a:=⟨X,4,none⟩) (.slice P3 t.items.length p3) (by show ¬ (X+1≤X∧_);omega)));have zF:=((z3.gB 2 (.slice P1 t.fields.length p1)).gB 3 (.slice P2 t.gone.length p2)).gB 4 (.slice P3 t.items.length p3);simp only[List.set_cons_zero,List.set_cons_succ] at zF;have hxF:=((hx3.setCell (p:=⟨X,2,none⟩) (Nat.le_refl X) (.slice P1 t.fields.length p1)).setCell (p:=⟨X,3,none⟩) (Nat.le_refl X) (.slice P2 t.gone.length p2)).setCell (p:=⟨X,4,none⟩) (Nat.le_refl X) (.slice P3 t.items.length p3);have hwF:=((hw3.setCell (p:=⟨X,2,none⟩) (by show w.heap.size≤X;omega) (.slice P1 t.fields.length p1)).setCell (p:=⟨X,3,none⟩) (by show w.heap.size≤X;omega) (.slice P2 t.gone.length p2)).setCell (p:=⟨X,4,none⟩) (by show w.heap.size≤X;omega) (.slice P3 t.items.length p3);have hsF:w3.heap.size≤(((w3.setCell ⟨X,2,none⟩ (.slice P1 t.fields.length p1)).setCell ⟨X,3,none⟩ (.slice P2 t.gone.length p2)).setCell ⟨X,4,none⟩ (.slice P3 t.items.length p3)).heap.size:=by simp[World.setCell]
   generalize ((w3.setCell ⟨X,2,none⟩ (.slice P1 t.fields.length p1)).setCell ⟨X,3,none⟩ (.slice P2 t.gone.length p2)).setCell ⟨X,4,none⟩ (.slice P3 t.items.length p3)=WF at *;have hotF:OG ah 53 5 (w.heap.size+1+1+1) WF vt acc:=Hot.out.below ah.fair (by rw[←HX.out];exact hxF);have b1:=HB1.out.below hxF (by omega);have b2:=HB2.out.below hxF (by omega);have b3:=HB3.out.below hxF (by omega);obtain⟨T,g1,g2,g3⟩:=(hotF.alloc ah.fair (.cells (TT t P1 p1 P2 p2 P3 p3).toArray 53)).take ah.fair (p:=X+1) (q:=w3.heap.size) (ah.fair.keep hrF (az.alloc _ WF _)) (by omega) (by simp;omega) (fun k hk=>.inl (by have:=hlt3 k hk;omega));obtain⟨Dt,dt,rfl,hdt⟩:=hotF.form;have G1:=hidL g1;have G2:=hidL g2;have G3:=hidL g3;have d0:=zF.c 0 rfl;have d1:=zF.c 1 rfl;have d2:=zF.c 2 rfl;have d3:=zF.c 3 rfl;have d4:=zF.c 4 rfl;have dl:=zF.lt;have m0:=b3.c 0 rfl;have ml:=b3.lt;clear hrt hrF z3 zF hxF hx3 hw3 hotF g1 g2 g3 ho13 ho23 ho3 his hgs hfs f2 f3 f4 lz hs1 hs2 hs3 z1 z2 zb hx0 hx1 hx2 hw0 hw1 hw2 hbx hwa hota;go_wp2_with (at_builtin;go_must (refine bv _ rfl (.tmp 26) (.tmp 28) rfl QR ah.fair rfl rfl G2.out (Src.one (es:=(TT t P1 p1 P2 p2 P3 p3)) (y:=t) rfl (gI.bK rfl) G3.out (ik.new _ _ _)) (fun g h=>(G1.out g h).2) ?_ ?_ ?_))
   ·simp only[Hbl.out,List.length_cons,List.length_nil];omega
   ·simp only[World.size_alloc];omega
   ·intro v9 w9 ho9 hg9 hv9;obtain⟨A9,c9,rfl,-⟩:=ho9.form;simp only[List.length_append,List.length_cons,List.length_nil,Nat.zero_add] at ho9 hv9;have hot9:=OG.made G1.out hg9 ho9;have b19:=(b1.alloc (.cells (TT t P1 p1 P2 p2 P3 p3).toArray 53)).fU G2.out (.inl (by omega)) hg9;have b29:=(b2.alloc (.cells (TT t P1 p1 P2 p2 P3 p3).toArray 53)).fU G2.out (.inl (by omega)) hg9;have b39:=(b3.alloc (.cells (TT t P1 p1 P2 p2 P3 p3).toArray 53)).fU G2.out (.inl (by omega)) hg9;have hb9:=below_grown (hwF.alloc hwF.size (.cells (TT t P1 p1 P2 p2 P3 p3).toArray 53)) hg9 (by simp only[World.size_alloc];have:=hwF.size;omega) (fun g' h=>by have:=(G2.out.lt h).1;omega);have k0:=b39.c 0 rfl;have kf:=b39.frozen 0;have kl:=b39.lt;clear hg9 hv9 ho9 b1 b2 b3 m0 ml d0 d1 d2 d3 d4 dl hwF;go_wp2;go_roundw
    case rel =>
     have h100:=b39.gB 0 (.slice A9 (acc.length+1) c9);simp only[List.set_cons_zero] at h100;refine⟨k+1,_,by go_num,by omega,b19.far (p:=⟨w.heap.size+1+1,0,none⟩) (by show w.heap.size≠w.heap.size+1+1;omega) _,b29.far (p:=⟨w.heap.size+1+1,0,none⟩) (by show w.heap.size+1≠w.heap.size+1+1;omega) _,h100,?_,hb9.setCell (p:=⟨w.heap.size+1+1,0,none⟩) (by show w.heap.size≤w.heap.size+1+1;omega) _⟩;rw[HTK.out];exact hot9.setCell ah.fair (p:=⟨w.heap.size+1+1,0,none⟩) _ (by show w.heap.size+1+1<_;omega)
    case measure=>simp[intOf];omega
  ·have hkb:k=b.length:=by omega
   subst hkb;rw[List.take_length] at hot;have c2:=hb3.c 0 rfl;have l2:=hb3.lt;have f2:=hb2.frozen 0;have l3:=hb2.lt;have c3:=hb2.c 0 rfl;obtain⟨A',c',rfl,hc'⟩:=hot.form;have h2:=hb2.gB 0 (.slice A' b.length c');simp only[List.set_cons_zero] at h2;have H2:=hidL h2;have HR:=hidL ((hot.setCell ah.fair (p:=⟨w.heap.size+1,0,none⟩) (.slice A' b.length c') (by show w.heap.size+1<_;omega)).read ah.fair (S:=New w) (fun g hg=>by show w.heap.size≤g;omega) hlb);have HW:=hidL (hb.setCell (p:=⟨w.heap.size+1,0,none⟩) (by show w.heap.size≤w.heap.size+1;omega) (.slice A' b.length c'));clear hb1 hb2 hb3 hot hb h2;go_wp2_with fail;exact bodyPost_ret (Bi H2.out rfl) rfl ⟨_,_,rfl,HR.out,HW.out⟩
end
section
open Go.Proofs.Tryz
open Go.RowKit
theorem yM {S:Nat→Prop}{row:Option Nat}{base g:Nat}{w:World}{s:cK}(h:bS S row base w g s)(hn:s.cs.length≤1000) :
  Calls prog 8 #[.pointer (some ⟨g,0,none⟩)] w (fun e w'=>∃ v,e=.returned v∧RSl 2 48 dw (New w) w' [v] s.cs∧Below w.heap.size w w'):=by
 obtain⟨AC,cc,hcs,hg0⟩:=h.row0;obtain⟨g0,hgl⟩:=hg0 _ (Below.refl _ _);have HC:=hidL hcs;obtain⟨l,hl⟩:=exE s.cs;rw[←hl] at HC g0 hn ⊢;have Hn:=hidL hn;clear hcs hg0 h hl hn;go_enter func8,ntmps8;go_wp2_with fail;go_loopw [13,3] (fun i v wr=>∃ k:Nat,i=O k∧k≤l.length∧OG dw 44 2 w.heap.size wr v (l.take k)∧Below w.heap.size w wr) (fun i _ _=>l.length-(intOf i).toNat)
 case atStart=>exact⟨0,rfl,by omega,OG.nil _ _ _ _ _,Below.refl _ _⟩
 case round =>
  clear g0 hgl;obtain⟨k,rfl,hk,hot,hb⟩:=hrel
  by_cases hlt:k<l.length
  ·obtain⟨gL,oL,rfl,hS,hgL⟩:=HC.out.base (by omega);obtain⟨P,p,Q,q,hrb,hrp,hat⟩:=Ls HC.out hlt;obtain⟨q0,q1,ql⟩:=hat _ hb;have htk:l.take (k+1)=l.take k++[l[k]]:=List.take_succ_eq_append_getElem hlt;obtain⟨c,hce⟩:=exE (l[k]);rw[←hce] at hrb hrp q0 q1 htk;have hbl:(l.take k).length=k:=by rw[List.length_take];omega
   obtain⟨acc,hacc⟩:=exE (l.take k);rw[←hacc] at hot htk hbl;have HTK:=hidL htk;have Hbl:=hidL hbl;have Hlt:=hidL hlt;have Hrb:=hidL hrb;have Hrp:=hidL hrp;obtain⟨A0,m0,rfl,-⟩:=hot.form;have Hot:=hidL hot;have hki:(k:Int)<l.length:=by omega
   have hwa:=hb.alloc hb.size (.cells #[.slice P c.book.length p,.slice Q c.parents.length q] 44);have zb:Box (wr.alloc (.cells #[.slice P c.book.length p,.slice Q c.parents.length q] 44)) wr.heap.size 44 [.slice P c.book.length p,.slice Q c.parents.length q]:=Box.new wr _ _;have hbx:Below wr.heap.size wr (wr.alloc (.cells #[.slice P c.book.length p,.slice Q c.parents.length q] 44)):=(Below.refl _ _).alloc (Nat.le_refl _) _;clear htk hbl hacc hce hat hrb hrp hot hS hgL;go_upto_region 7 with fail;have hzs:(wr.alloc (.cells #[.slice P c.book.length p,.slice Q c.parents.length q] 44)).heap.size=wr.heap.size+1:=by simp
   obtain⟨X,hX⟩:=exE wr.heap.size;rw[←hX] at zb hzs hbx ⊢;have Hx:=hidL (show w.heap.size≤X∧X+1≤(wr.alloc (.cells #[.slice P c.book.length p,.slice Q c.parents.length q] 44)).heap.size by have:=hb.size;omega);have Hox:=hidL (fun k (h:(Value.slice A0 acc.length m0).ownBlock=some k)=>show k<X by rw[hX];exact(Hot.out.lt h).2);have HX:=hidL hX;generalize wr.alloc (.cells #[.slice P c.book.length p,.slice Q c.parents.length q] 44)=W0 at *;clear hX hzs q0 q1 ql hb;have hS:(fun W'=>LL W' X 0 (.slice P c.book.length p)∧LL W' X 1 (.slice Q c.parents.length q)) W0.drew:=⟨zb.cell 0,zb.cell 1⟩;have hw:=au (Below.here W0);have hHS:=hidL (fun W (h:Below W0.heap.size W0 W)=>show (fun W'=>LL W' X 0 (.slice P c.book.length p)∧LL W' X 1 (.slice Q c.parents.length q)) W from⟨(zb.below h zb.lt).cell 0,(zb.below h zb.lt).cell 1⟩);clear zb;refine aJ (fun W'=>LL W' X 0 (.slice P c.book.length p)∧LL W' X 1 (.slice Q c.parents.length q)) (fun i=>decide (i<9)) (by kernel_rfl) ?_;generalize W0.drew=Wd at hS hw ⊢;apply ppP 0;apply ppP 1;apply tkP 2 hS;apply ppP 4;apply tkP 5 hS
   try simp only[pu]
   refine ang 3 (fun K hK=>?_);go_simp;refine(acL S _ c.book Wd ((RSl.fair ah.fair).below Hrb.out (aa hwa hw hwa.size))).mono ?_;rintro e w5 ⟨A5,c5,rfl,hr5,hb5⟩;have hw5:=aa hw hb5 hw.size;replace hS:=hHS.out _ hw5;refine hK.out _ _ (fun _ _=>hS) ?_
   try simp only[pu]
   refine ang 6 (fun K hK=>?_);go_simp;refine(cloneInt_any S _ c.parents w5 ((RSl.fair aQ.fair).below Hrp.out (aa hwa hw5 hwa.size))).mono ?_;rintro e w6 ⟨v6,rfl,ho6,hb6⟩;have hw6:=aa hw5 hb6 hw5.size;replace hS:=hHS.out _ hw6;have ho6:=Own.flat ho6;obtain⟨A6,c6,rfl,hc6⟩:=ho6.form;have hsz:X+1≤Wd.heap.size∧Wd.heap.size≤w5.heap.size∧w5.heap.size≤w6.heap.size:=⟨Nat.le_trans Hx.out.2 hw.size,hb5.size,hb6.size⟩;obtain⟨_,_,hpp,hpl,hpb⟩:=Hrp.out.form;have hrc:dw (fun y=>X+1≤y∧y<w6.heap.size) w6 [.slice A5 c.book.length c5,.slice A6 c.parents.length c6] c :=
    ⟨_,_,rfl,(RSl.fair ah.fair).mono ((RSl.fair ah.fair).below hr5 hb6) (fun y h k=>⟨Nat.le_trans hsz.1 h,k⟩),ho6.read aQ.fair (fun _ h=>h.elim) (fun k hk=>⟨by have:=(ho6.lt hk).1;omega,(ho6.lt hk).2⟩) (by omega)⟩
   clear hpp hpl hpb ho6 hr5;refine hK.out _ _ (fun _ _=>hS) ?_
   try simp only[pu]
   apply ppP 7
   try simp only[pu]
   refine ang 8 (fun K hK=>?_);go_simp;have hot6:=Hot.out.below dw.fair (by rw[←HX.out];exact aa hbx hw6 (Nat.le_trans (Nat.le_succ X) Hx.out.2));obtain⟨T,g1,g2,g3⟩:=(hot6.alloc dw.fair (.cells #[.slice A5 c.book.length c5,.slice A6 c.parents.length c6] 44)).take dw.fair (p:=X+1) (q:=w6.heap.size) (dw.fair.keep hrc (az.alloc _ w6 _)) (by have:=Hx.out.1;omega) (by simp) (fun k hk=>.inl (by have:=Hox.out k hk;omega));have hX2:=Box.new w6 44 [.slice A5 c.book.length c5,.slice A6 c.parents.length c6];have hw7:=hw6.alloc hw6.size (.cells #[.slice A5 c.book.length c5,.slice A6 c.parents.length c6] 44);replace hS:=hHS.out _ hw7;have hwb:Below w.heap.size w (w6.alloc (.cells #[.slice A5 c.book.length c5,.slice A6 c.parents.length c6] 44)):=aa hwa hw7 hwa.size;refine hK.out _ _ (fun _ _=>hS) ?_
   try simp only[pu]
   clear hrc hot6 hb5 hb6 hw5 hw6 hsz;generalize w6.heap.size=Y at hX2 ⊢;generalize World.alloc w6 _=w7 at hX2 hw7 hS hwb g1 g2 g3 ⊢;refine ang 9 (fun K hK=>?_);refine dM _ rfl (.tmp 17) (.tmp 25) rfl GX dw.fair rfl rfl g2 (Src.one (es:=[.slice A5 c.book.length c5,.slice A6 c.parents.length c6]) (y:=c) rfl (gI.bK rfl) g3 hX2.lies) (fun g h=>(g1 g h).2) (by have:=Hn.out;have:=Hbl.out;have:=Hlt.out;go_light;simp;omega) hwb.size ?_;intro v9 w9 ho9 hg9 hv9;have hot9:=OG.made g1 hg9 ho9;have hb9:=below_grown hwb hg9 hwb.size (fun g' h=>by go_light;exact(g2.lt h).1);clear ho9 hg9 hv9 g1 g2 g3 hX2 hw7 hwb;refine hK.out _ _ nay ?_
   try simp only[pu]
   apply ppP 10
   try simp only[pu]
   refine anf ?_ _;clear hS hHS;rw[←HTK.out] at hot9;have hn2:=Hn.out;go_wp2;go_roundw
   case rel=>exact⟨k+1,by go_num,Hlt.out,hot9,hb9⟩
   case measure=>simp[intOf];omega
  ·have hkb:k=l.length:=by omega
   subst hkb;rw[List.take_length] at hot;have HO:=hidL (hot.read dw.fair (S:=New w) (by_:=48) (fun g hg=>hg) (by have:=Hn.out;omega));clear hot;go_wp2;go_ret;exact⟨_,rfl,HO.out,hb⟩
end
end Go.Proofs.YtknnhpkjgnkcdaaGreatDoor
