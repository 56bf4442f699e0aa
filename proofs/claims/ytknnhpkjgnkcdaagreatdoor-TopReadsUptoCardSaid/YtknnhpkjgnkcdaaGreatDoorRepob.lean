/- Walks and plain laws. -/
import Derived.Test.YtknnhpkjgnkcdaaGreatDoorRepoa
import Derived.Test.YtknnhpkjgnkcdaaGreatDoorParses
import Derived.Test.YtknnhpkjgnkcdaaGreatDoorMbooks
set_option linter.all false
set_option maxRecDepth 100000
set_option maxHeartbeats 8000000
namespace Go.Proofs.YtknnhpkjgnkcdaaGreatDoor
open Go.Proofs.Tryz
open Go.RowKit
theorem add_results {W:World}{a:Act}{g:Nat}{c0 c1 c2 c3:Value}(hb:Box W g 32 [c0,c1,c2,c3])(h4:a.tmps.getD 8 undef=.pointer (some ⟨g,0,none⟩)) :
  (results f50 a.tmps).run prog W=.ok (.agg #[c0,c1,c2,c3]) W:=by
 have e0:=hb.c 0 rfl;have e1:=hb.c 1 rfl;have e2:=hb.c 2 rfl;have e3:=hb.c 3 rfl;simp only[Array.getD_eq_getD_getElem?] at h4;simp[results,results50,go_sem,h4,e0,e1,e2,e3]
theorem Box.rr4 {w:World}{g:Nat}{t:TypeId}{a b c d:Value}(h:Box w g t [a,b,c,d]):LL w g 0 a∧LL w g 1 b∧LL w g 2 c∧LL w g 3 d∧w.frozen? ⟨g,0,none⟩=false∧w.frozen? ⟨g,1,none⟩=false∧w.frozen? ⟨g,2,none⟩=false∧w.frozen? ⟨g,3,none⟩=false∧g<w.heap.size :=
 ⟨h.cell 0,h.cell 1,h.cell 2,h.cell 3,h.frozen 0,h.frozen 1,h.frozen 2,h.frozen 3,h.lt⟩
theorem AddBox.go {w:World}{g:Nat}{t:TypeId}{a b c:Value}(h:Box w g t [a,b,c]):LL w g 0 a∧LL w g 1 b∧w.frozen? ⟨g,0,none⟩=false :=
 ⟨h.cell 0,h.cell 1,h.frozen 0⟩
theorem nD {rs:List gD}{k:Nat}(h:k<rs.length):fH rs k=rs[k]:=by simp[fH,h]
theorem Xd {S:Nat→Prop}{row:Option Nat}{base g:Nat}{w:World}{s:cK}(Sb:Nat→Prop)(vb vp:Value)(k:Nat)(b:av)(ps:List Int)(h:bS S row base w g s)(hb:RSl 5 96 ah Sb w [vb] b)(hp:RSl 1 8 aQ Sb w [vp] ps)
  (hSg:¬ Sb g) (hSr:∀ y,row=some y→¬ Sb y) (hSl:∀ y,Sb y→y<w.heap.size) (hk:k<s.rs.length) (hn:s.cs.length≤40) (hrl:s.rs.length≤1000) (hpol:0≤(fH s.rs k).policy∧(fH s.rs k).policy≤3) (hok:∀ c∈s.cs,aS c.book) (hokb:aS b) (hW:Words w) :
  Calls prog 50 #[.pointer (some ⟨g,0,none⟩),O k,.agg #[vb],vp] w (eD (fun y=>S y∨Sb y) row base g w (wP s k b ps)):=by
 obtain⟨R,hR⟩:=exE (wP s k b ps);rw[←hR];have HR:=hidL hR;clear hR;have H:=hidL h;obtain⟨vc,vr,hrow,hbx,hcs,hrs,hnS,hnR,hSw,hbg⟩:=h;obtain⟨AC,cc,rfl,-,-⟩:=hcs.form;obtain⟨x1,x2,x3⟩:=bY w [vb] [O 0,O 0,E0,Z0] 38 32;have c0:=(hbx.below x3 hbx.lt).c 0 rfl;have hgl:=(hbx.below x3 hbx.lt).lt;have hgw:=hbx.lt;obtain⟨AB,cb,rfl,-,-⟩:=hb.form;obtain⟨AP,cp,rfl,-,-⟩:=hp.form;obtain⟨AR,cr,rfl,-⟩:=hrs.form;obtain⟨gr,rfl,hbr,hgrl⟩:=hrs.qR (by omega);obtain rfl:row=some gr:=hrow.symm;have Hcs:=hidL hcs;have Hrs:=hidL hrs;have Hbx:=hidL hbx;have Hb:=hidL hb;have Hp:=hidL hp;clear hcs hrs hbx hb hp;go_enter func50,ntmps50;go_upto_region 1 with fail;generalize World.alloc (World.alloc w _) _=W0 at x1 x2 x3 c0 hgl ⊢
 by_cases h40:40≤s.cs.length
 ·--[FULL
  have hr:R=(dY 12,s):=by rw[HR.out,wP,if_pos h40]
  subst hr;have hd:decide ((s.cs.length:Int)≥40)=true:=by simp;omega
  obtain⟨r0,r1,r2,r3,g0,g1,g2,g3,lr⟩:=x2.rr4;go_wp2_with fail;change bodyPost _ _ _ _ _ (setCells _ (w.heap.size+1) 0 [O 12,O 0,E0,Z0]);have hz:=x2.setCells [O 12,O 0,E0,Z0] rfl;have hB:=below_setCells (B:=w.heap.size) (g:=w.heap.size+1) (by omega) [O 12,O 0,E0,Z0] 0 _ x3;exact bodyPost_ret (add_results hz rfl) rfl (eD.same H.out hB jd.flat fun _ h=>.inl h)
 ·have hd:decide ((s.cs.length:Int)≥40)=false:=by simp;omega
  have hb0:=x1.c 0 rfl;have hbl:=x1.lt;go_upto_region 3 with fail;have hS:(fun W'=>LL W' g 0 (.slice AC s.cs.length cc)∧LL W' w.heap.size 0 (.slice AB b.length cb)) W0.drew:=⟨c0,hb0⟩;have hw:=au (Below.here W0);have hHS:=hidL (fun W (h:Below W0.heap.size W0 W)=>show (fun W'=>LL W' g 0 (.slice AC s.cs.length cc)∧LL W' w.heap.size 0 (.slice AB b.length cb)) W from⟨(h.cell (p:=⟨g,0,none⟩) hgl).trans c0,(h.cell (p:=⟨w.heap.size,0,none⟩) hbl).trans hb0⟩);refine aJ (fun W'=>LL W' g 0 (.slice AC s.cs.length cc)∧LL W' w.heap.size 0 (.slice AB b.length cb)) (fun _=>true) (by kernel_rfl) ?_;generalize W0.drew=Wd at hS hw ⊢;apply ppP 0;apply ppP 1;apply ppP 2;apply tkP 3 hS;apply tkP 5 hS;apply ppP 6;apply ppP 7
  try simp only[pu]
  have hT:∀ y,(S y∨Sb y)→y<w.heap.size:=fun y hy=>hy.elim (hSw y) (hSl y)
  have hcl:=hidL (fun W (h:Below W0.heap.size W0 W)=>cloneCommit_any S _ s.cs W ((RSl.fair dw.fair).below Hcs.out (aa x3 h x3.size)));have hnc:∀ W,Below W0.heap.size W0 W→dw (fun y=>S y∨Sb y) W [.slice AB b.length cb,.slice AP ps.length cp] ⟨b,ps⟩:=fun W h =>
   ⟨_,_,rfl,(RSl.fair ah.fair).mono ((RSl.fair ah.fair).below Hb.out (aa x3 h x3.size)) (fun _ h _=>.inr h),(RSl.fair aQ.fair).mono ((RSl.fair aQ.fair).below Hp.out (aa x3 h x3.size)) (fun _ h _=>.inr h)⟩
  have hsw:=x3.size;refine iI (i:=4) (j:=8) rfl rfl (by kernel_rfl) (fun K hK=>?za1) (fun K hK=>?zb1)
  case' za1 =>
   go_simp;refine(hcl.out _ hw).mono ?_;rintro e w1 ⟨v1,rfl,ho1,hb1⟩;have ho:=(ho1.base hw.size).mono dw.fair (T':=fun y=>S y∨Sb y) (fun y hy _=>.inl hy.1) (fun y hy h=>by have:=(ho1.lt hy).1;have:=hT y h;have:=hw.size;omega);replace hw:=aa hw hb1 hw.size;replace hS:=hHS.out _ hw;clear ho1 hb1;refine hK.out _ _ (fun _ _=>hS) ?_
   try simp only[pu]
   refine ang 8 (fun K hK=>?_);go_simp;have hX:=Box.new w1 44 [.slice AB b.length cb,.slice AP ps.length cp];have ho2:=ho.alloc dw.fair (.cells [.slice AB b.length cb,.slice AP ps.length cp].toArray 44);have hw2:=hw.alloc hw.size (.cells [.slice AB b.length cb,.slice AP ps.length cp].toArray 44);replace hS:=hHS.out _ hw2;clear ho hw;refine hK.out _ _ (fun _ _=>hS) ?_
   try simp only[pu]
   generalize w1.heap.size=X at hX ⊢;generalize World.alloc w1 _=w2 at hX ho2 hw2 hS ⊢
  case' zb1 =>
   go_simp;have hX:=Box.new Wd 44 [.slice AB b.length cb,.slice AP ps.length cp];replace hw:=hw.alloc hw.size (.cells [.slice AB b.length cb,.slice AP ps.length cp].toArray 44);replace hS:=hHS.out _ hw;refine hK.out _ _ (fun _ _=>hS) ?_
   try simp only[pu]
   generalize Wd.heap.size=X at hX ⊢;generalize World.alloc Wd _=w0 at hX hw hS ⊢;refine ang 4 (fun K hK=>?_);go_simp;refine(hcl.out _ hw).mono ?_;rintro e w2 ⟨v1,rfl,ho1,hb1⟩;have ho2:=(ho1.base hw.size).mono dw.fair (T':=fun y=>S y∨Sb y) (fun y hy _=>.inl hy.1) (fun y hy h=>by have:=(ho1.lt hy).1;have:=hT y h;have:=hw.size;omega);have hw2:=aa hw hb1 hw.size;replace hX:=hX.below hb1 hX.lt;replace hS:=hHS.out _ hw2;clear ho1 hb1 hw;refine hK.out _ _ (fun _ _=>hS) ?_
   try simp only[pu]
  all_goals
   have hnc2:=hnc _ hw2;have hTl:∀ y,(S y∨Sb y)→y<w2.heap.size:=fun y hy=>Nat.lt_of_lt_of_le (hT y hy) (Nat.le_trans hsw hw2.size)
   refine ang 9 (fun K hK=>?_);refine dM _ rfl (.tmp 23) (.tmp 27) rfl GX dw.fair rfl rfl ho2 (Src.one (es:=[.slice AB b.length cb,.slice AP ps.length cp]) (y:=⟨b,ps⟩) rfl (gI.bK rfl) hnc2 hX.lies) hTl (by simp;omega) hw2.size ?_;intro v5 w5 ho5 hg5 hv5;replace hw2:=below_grown hw2 hg5 hw2.size (fun g' h=>by go_light;exact(ho2.lt h).1);replace hS:=hHS.out _ hw2;clear ho2 hg5 hv5 hX hTl hnc2 hnc hcl;obtain⟨C,hC⟩:=exE (s.cs++[⟨b,ps⟩]);rw[←hC] at ho5;have HC:=hidL hC;clear hC;obtain⟨A5,c5,rfl,-⟩:=ho5.form;refine hK.out _ _ (fun _ _=>hS) ?_
   try simp only[pu]
   apply ppP 10
   try simp only[pu]
   refine anf ?_ _;clear hS hHS;have hCl:C.length=s.cs.length+1:=by rw[HC.out];simp
   have e1:IntKind.i64.wrap ((C.length:Int)-1)=((s.cs.length:Nat):Int):=by rw[show (C.length:Int)-1=((s.cs.length:Nat):Int) by omega];exact IntWalk.i64_in _ (by omega)
   have h5:=aa x3 hw2 x3.size;obtain⟨gb0,gb1,-⟩:=AddBox.go (Hbx.out.below h5 Hbx.out.lt);have hl5:=Nat.lt_of_lt_of_le hgw h5.size;obtain⟨P,hP⟩:=exE ((fH s.rs k).policy);rw[←hP] at hpol;obtain⟨cs,-,hcr,hly⟩:=(Hrs.out.below iG.fair h5).cells hk;obtain rfl:cs=aN s.rs[k]:=hcr;have c2:=hly.at_ 2 rfl;rw[←nD hk,←hP] at c2;have hkl:(k:Int)<s.rs.length:=by omega
   have hlr:=Nat.lt_of_lt_of_le hgrl h5.size;have hsz:W0.heap.size≤w5.heap.size:=hw2.size;have hS5:∀ y,(S y∨Sb y)→y<W0.heap.size:=fun y hy=>Nat.lt_of_lt_of_le (hT y hy) x3.size
   have hrd:RSl 2 48 dw (fun y=>(S y∨Sb y)∨(W0.heap.size≤y∧y<w5.heap.size)) w5 [.slice A5 C.length c5] C:=ho5.read dw.fair (fun y h _=>.inl h) (fun y h=>.inr (ho5.lt h)) (by omega);obtain⟨F,hF⟩:=exE (ji C (s.cs.length:Nat) P);have hbr:=Iz _ _ C (s.cs.length:Nat) P w5 hrd (by omega) hpol (fun c h=>by rw[HC.out] at h;rcases List.mem_append.1 h with h | h;exact hok c h;obtain rfl:=List.mem_singleton.1 h;exact hokb) (hW.below h5);rw[←hF] at hbr;have HF:=hidL hF;have HB:=hidL hbr;have HP:=hidL hP;have Hrd:=hidL hrd;clear hF hbr hP hly ho5 hrd hCl;go_wp2_with fail;refine HB.out.mono ?_;rintro e w6 ⟨vf,rfl,hrf,hb6⟩;obtain⟨AF,cf,rfl,-,-⟩:=hrf.form;have hw6:=aa hw2 hb6 hw2.size;have h6:=aa x3 hw6 x3.size;have hz2:=x2.below hw6 x2.lt;have HRF:=hidL hrf;obtain⟨r0,r1,r2,r3,g0,g1,g2,g3,lr⟩:=hz2.rr4;obtain⟨gb0',gb1',gf⟩:=AddBox.go (Hbx.out.below h6 Hbx.out.lt);have hl6:=Nat.lt_of_lt_of_le hgw h6.size;clear c2 gb0 gb1 hlr HB hrf
   by_cases hF:0<F.length
   ·--[BREAKS
    have hFi:decide (0<F.length)=true:=by simpa using hF
    have hr:R=(⟨8,0,⟨#[]⟩,F⟩,s):=by rw[HR.out,wP,if_neg h40,←HC.out,←HP.out,←HF.out,if_pos (fun e=>by rw[e] at hF;simp at hF)]
    subst hr;clear hF;go_wp2_with fail;change bodyPost _ _ _ _ _ (setCells _ (w.heap.size+1) 0 [O 8,O 0,E0,.slice AF F.length cf]);have hz:=hz2.setCells [O 8,O 0,E0,.slice AF F.length cf] rfl;have hB:=below_setCells (B:=w.heap.size) (g:=w.heap.size+1) (by omega) [O 8,O 0,E0,.slice AF F.length cf] 0 _ h6;exact bodyPost_ret (add_results hz rfl) rfl (eD.same H.out hB ⟨_,rfl,(RSl.fair aU.fair).mono ((RSl.fair aU.fair).keep HRF.out (az.setCells (fun h=>by have h:w5.heap.size≤w.heap.size+1:=h;have:=x2.lt;omega) _ 0 w6)) (fun y h _=>by have h:w5.heap.size≤y:=h;have:=h5.size;show w.heap.size≤y;omega)⟩ fun _ h=>.inl h)
   ·have hFi:decide (0<F.length)=false:=by simpa using hF
    have hF0:F=[]:=List.eq_nil_of_length_eq_zero (by omega);have hr:R=(oJ s.cs.length,⟨C,rF s.rs k s.cs.length,s.acts⟩):=by rw[HR.out,wP,if_neg h40,←HC.out,←HP.out,←HF.out,if_neg (by simp[hF0])]
    subst hr;obtain⟨cR,-,hcR,hlyR⟩:=(Hrs.out.below iG.fair h6).cells hk;obtain rfl:cR=aN s.rs[k]:=hcR;have hu1:=hlyR.at_ 1 rfl;have hfr:=(Hrs.out.below iG.fair h6).frozen (k*3+1);have hlr6:=Nat.lt_of_lt_of_le hgrl h6.size;have hne:=H.out.ne;clear hlyR;go_wp2_with fail;change bodyPost _ _ _ _ _ (setCells _ (w.heap.size+1) 0 [O 0,O s.cs.length,E0,Z0]);have hx1:=x2.lt;have hgn:¬ S g∧¬ S gr:=⟨hnS,hnR gr rfl⟩;have hgr:=hSr gr rfl;have hz:=((hz2.far (p:=⟨g,0,none⟩) (by show w.heap.size+1≠g;omega) (.slice A5 C.length c5)).far (p:=⟨gr,k*3+1,none⟩) (by show w.heap.size+1≠gr;omega) (O s.cs.length)).setCells [O 0,O s.cs.length,E0,Z0] rfl;have k1:=(H.out.below h6).ann ((RSl.fair dw.fair).below Hrd.out hb6) (fun h=>by rcases h with (h | h) | h;exact hgn.1 h;exact hSg h;omega)
     (fun y e h=>by obtain rfl:=Option.some.inj e;rcases h with (h | h) | h;exact hgn.2 h;exact hgr h;omega) (fun y h=>by rcases h with h | h;have:=hT y h;have:=h6.size;omega;have:=hb6.size;omega)
    have k2:=k1.amF (acR s.rs k s.cs.length) (by show _<s.rs.length*3;omega) (LQ s.cs.length s.rs k hk);have k3:=bS.fq (x:=w.heap.size+1) (by omega) (by intro e;have:=Option.some.inj e;omega) (fun h=>by rcases h with h | h;have:=hT _ h;omega;omega) [O 0,O s.cs.length,E0,Z0] 0 _ k2;exact bodyPost_ret (add_results hz rfl) rfl (eD.of H.out jd.flat k3 (fun y h=>h.imp id (fun h=>by omega))
     (Touch.setCells (Nat.le_succ _) _ 0 _ (((Touch.below h6).setCell (p:=⟨g,0,none⟩) (.inl rfl) _).setCell (p:=⟨gr,k*3+1,none⟩) (.inr (.inl rfl)) _)))
def fQ (a:mG):List Value:=[O a.kind,O a.n,O a.m,.string a.name,.string a.other,.string a.text]
theorem bS.setR {S:Nat→Prop}{row:Option Nat}{base g:Nat}{w w1 w2:World}{s:cK}{v:Value}{rs:List gD}(h:bS S row base w g s)(h1:Below w.heap.size w w1)(hg:w1.grownBy w2 row)(ho:Own base 61 3 iG NoT w2 v rs)
  (hv:v.ownBlock=row∨∀ k,v.ownBlock=some k→w1.heap.size≤k) :
  bS S v.ownBlock base (w2.setCell ⟨g,1,none⟩ v) g ⟨s.cs,rs,s.acts⟩∧Touch row g w (w2.setCell ⟨g,1,none⟩ v):=by
 have hne:∀ k,row=some k→k≠g:=fun k e=>by subst e;exact h.ne
 obtain⟨vc,vr,rfl,a2,a3,a4,a5,a6,a7,a8⟩:=h.below h1;have hk:az S w1 w2:=az.bH hg a6;have b2:=a2.grown hg (fun e=>hne g e rfl);refine⟨⟨vc,v,rfl,b2.gB 1 v,(RSl.fair dw.fair).keep ((RSl.fair dw.fair).keep a3 hk) (az.setCell _ _ a5),ho.setCell iG.fair v (b2.gV ho (by decide)) (fun h=>h),a5,?_,fun y hy=>by simpa using Nat.lt_of_lt_of_le (a7 y hy) hg.size,a8⟩,
  (((Touch.below h1).trans (Touch.grown hg) (.inl rfl)).setCell (p:=⟨g,1,none⟩) (.inl rfl) v)⟩
 intro k e hs;rcases hv with hv | hv
 ·exact a6 k (hv ▸ e) hs
 ·have:=hv k e;have:=a7 k hs;omega
theorem adJ {S:Nat→Prop}{row:Option Nat}{base g:Nat}{w:World}{s:cK}(a:mG)(h:bS S row base w g s)(hs:iD s.rs)(hn:s.cs.length≤1000)(hrl:s.rs.length≤1000)(ha:a.name.size≤9223372036854775807)(hb:base≤w.heap.size)(hW:Words w) :
  Calls prog 24 #[.pointer (some ⟨g,0,none⟩),.agg (fQ a).toArray] w (fun e w'=>e=.returned (O (lJ s a).1)∧pF S row base g w w' (lJ s a).2):=by
 obtain⟨R,hR⟩:=exE (lJ s a);rw[←hR];have HR:=hidL hR;clear hR;have H:=hidL h;obtain⟨vc,vr,hrow,hbx,hcs,hrs,hnS,hnR,hSw,hbg⟩:=h;have x1:=Box.new w 35 (fQ a);have x3:Below w.heap.size w _:=(Below.here w).alloc (Nat.le_refl _) (.cells (fQ a).toArray 35);unfold fQ at x1 x3 ⊢;have H1:=hidL (fun W (h:Below w.heap.size w W)=>FH a.name (H.out.below h) hs hrl);have H2:=hidL (fun W (h:Below w.heap.size w W)=>Bh a.name W ha (hW.below h));have hgw:=hbx.lt;obtain⟨AC,cc,rfl,-,-⟩:=hcs.form;obtain⟨AR,cr,rfl,-⟩:=hrs.form;have Hbx:=hidL hbx;have Hrs:=hidL hrs;have hgb:=hidL (fun W (h:Below w.heap.size w W)=>AddBox.go (hbx.below h hgw));obtain⟨P,hP⟩:=exE (fB s.rs a.name);obtain⟨B,hB⟩:=exE (qJ s.rs a.name);obtain⟨M,hM⟩:=exE (bJ a.name);rw[←hM] at H2;rw[←hP,←hB] at H1;have HP:=hidL hP;have HB:=hidL hB;have HM:=hidL hM;clear hP hB hM hcs hrs hbx;go_enter func24,ntmps24;go_upto_region 1 with fail;generalize World.alloc w _=W0 at x1 x3 ⊢;have hc0:=x1.c 0 rfl;have hc1:=x1.c 1 rfl;have hc3:=x1.c 3 rfl;have hwl:=x1.lt;go_wp2_with fail;refine(H1.out _ x3).mono ?_;rintro e w1 ⟨rfl,hb1⟩;replace x3:=aa x3 hb1 x3.size;replace x1:=x1.below hb1 x1.lt;clear hc0 hc1 hc3 hwl hb1;have hc0:=x1.c 0 rfl;have hc1:=x1.c 1 rfl;have hc3:=x1.c 3 rfl;have hwl:=x1.lt;go_wp2_with fail;refine(H2.out _ x3).mono ?_;rintro e w2 ⟨rfl,rfl⟩;cases M with
 | false =>
  have hr:R=(1,s):=by rw[HR.out,lJ,if_pos HM.out.symm]
  subst hr;go_wp2;go_ret;exact⟨rfl,pF.same H.out x3⟩
 | true =>
  obtain⟨g0,g1,g2⟩:=hgb.out _ x3;have hgl:=Nat.lt_of_lt_of_le hgw x3.size;go_upto_region 4 with fail
  by_cases hl:a.n<0
  ·have hd1:decide (a.n<0)=true:=by simpa using hl
   have hr:R=(3,s):=by rw[HR.out,lJ,if_neg (by rw[←HM.out];simp),if_pos (by simp[isC];omega)]
   subst hr;have hS:(fun W'=>LL W' w.heap.size 1 (O a.n)∧LL W' g 0 (.slice AC s.cs.length cc)) w2.drew:=⟨hc1,g0⟩;have x3':=au x3;have hgl':g<w2.drew.heap.size:=hgl;refine aJ (fun W'=>LL W' w.heap.size 1 (O a.n)∧LL W' g 0 (.slice AC s.cs.length cc)) (fun _=>true) (by kernel_rfl) ?_;clear hc1 g0 g1 g2 hc3 hc0;apply ppP 0;apply tkP 1 hS;apply ppP 2;apply ppP 3;apply skP 4 hS;apply skP 5 hS;apply skP 6 hS;apply skP 7 hS;apply skP 8 hS;apply skP 9 hS;apply skP 10 hS;apply skP 11 hS;apply ppP 12;apply ppP 13
   try simp only[pu]
   refine anf ?_ _;go_wp2;go_ret;exact⟨rfl,pF.same H.out (au x3)⟩
  have hd1:decide (a.n<0)=false:=by simpa using hl
  by_cases hm:(s.cs.length:Int)≤a.n
  ·have hd2:decide (a.n≥(s.cs.length:Int))=true:=by simpa using hm
   have hr:R=(3,s):=by rw[HR.out,lJ,if_neg (by rw[←HM.out];simp),if_pos (by simp[isC];omega)]
   subst hr;have hS:(fun W'=>LL W' w.heap.size 1 (O a.n)∧LL W' g 0 (.slice AC s.cs.length cc)) w2.drew:=⟨hc1,g0⟩;have x3':=au x3;have hgl':g<w2.drew.heap.size:=hgl;refine aJ (fun W'=>LL W' w.heap.size 1 (O a.n)∧LL W' g 0 (.slice AC s.cs.length cc)) (fun _=>true) (by kernel_rfl) ?_;clear hc1 g0 g1 g2 hc3 hc0;apply ppP 0;apply tkP 1 hS;apply ppP 2;apply ppP 3;apply ppP 4;apply tkP 5 hS;apply ppP 6;apply tkP 7 hS;apply ppP 8;apply tkP 9 hS;apply ppP 10;apply ppP 11;apply ppP 12;apply ppP 13
   try simp only[pu]
   refine anf ?_ _;go_wp2;go_ret;exact⟨rfl,pF.same H.out (au x3)⟩
  have hd2:decide (a.n≥(s.cs.length:Int))=false:=by simpa using hm
  have hc:¬ isC s a.n=false:=by simp[isC];omega
  have hS:(fun W'=>LL W' w.heap.size 1 (O a.n)∧LL W' g 0 (.slice AC s.cs.length cc)) w2.drew:=⟨hc1,g0⟩;have x3':=au x3;have hgl':g<w2.drew.heap.size:=hgl;refine aJ (fun W'=>LL W' w.heap.size 1 (O a.n)∧LL W' g 0 (.slice AC s.cs.length cc)) (fun _=>true) (by kernel_rfl) ?_;clear hc1 g0 g1 g2 hc3 hc0;apply ppP 0;apply tkP 1 hS;apply ppP 2;apply ppP 3;apply ppP 4;apply tkP 5 hS;apply ppP 6;apply tkP 7 hS;apply ppP 8;apply tkP 9 hS;apply ppP 10;apply ppP 11;apply ppP 12;apply ppP 13
  try simp only[pu]
  refine anf ?_ _;clear hS;replace x1:=x1.drew;generalize w2.drew=V at x1 x3' hgl' ⊢;clear x3 hgl hwl;have x3:=x3';clear x3';have hc1:=x1.c 1 rfl;have hc3:=x1.c 3 rfl;have hwl:=x1.lt;obtain⟨-,g1,-⟩:=hgb.out _ x3;cases B with
  | true =>
   have hr:R=(4,s):=by rw[HR.out,lJ,if_neg (by rw[←HM.out];simp),if_neg hc,if_pos HB.out.symm]
   subst hr;go_wp2;go_ret;exact⟨rfl,pF.same H.out x3⟩
  | false =>
   by_cases h6:6≤s.rs.length
   ·have hd3:decide ((s.rs.length:Int)≥6)=true:=by simp;omega
    have hr:R=(12,s):=by rw[HR.out,lJ,if_neg (by rw[←HM.out];simp),if_neg hc,if_neg (by rw[←HB.out];simp),if_pos h6]
    subst hr;go_wp2;go_ret;exact⟨rfl,pF.same H.out x3⟩
   ·have hd3:decide ((s.rs.length:Int)≥6)=false:=by simp;omega
    have hr:R=(0,⟨s.cs,eY s.rs P ⟨a.name,a.n,0⟩,s.acts⟩):=by rw[HR.out,lJ,if_neg (by rw[←HM.out];simp),if_neg hc,if_neg (by rw[←HB.out];simp),if_neg h6,←HP.out]
    subst hr;go_upto_region 10 with fail;have hS:(fun W'=>LL W' w.heap.size 1 (O a.n)∧LL W' w.heap.size 3 (.string a.name)∧LL W' g 1 (.slice AR s.rs.length cr)) V.drew:=⟨hc1,hc3,g1⟩;have hHS:=hidL (fun W (h:Below V.heap.size V W)=>show (fun W'=>LL W' w.heap.size 1 (O a.n)∧LL W' w.heap.size 3 (.string a.name)∧LL W' g 1 (.slice AR s.rs.length cr)) W from⟨(h.cell (p:=⟨w.heap.size,1,none⟩) hwl).trans hc1,(h.cell (p:=⟨w.heap.size,3,none⟩) hwl).trans hc3,(h.cell (p:=⟨g,1,none⟩) hgl').trans g1⟩);have hw:=au (Below.here V);clear hc1 hc3 g1;refine aJ (fun W'=>LL W' w.heap.size 1 (O a.n)∧LL W' w.heap.size 3 (.string a.name)∧LL W' g 1 (.slice AR s.rs.length cr)) (fun i=>decide (i<15)) (by kernel_rfl) ?_;generalize V.drew=Vd at hS hw ⊢;apply ppP 0;apply ppP 1;apply ppP 2;apply ppP 3;apply tkP 4 hS;apply ppP 5;apply ppP 6;apply tkP 7 hS;apply ppP 8;apply tkP 9 hS;apply ppP 10
    try simp only[pu]
    refine ang 11 (fun K hK=>?_);go_simp;have hX:=Box.new Vd 61 [.string a.name,O a.n,O 0];have hw2:=hw.alloc hw.size (.cells [.string a.name,O a.n,O 0].toArray 61);replace hS:=hHS.out _ hw2;refine hK.out _ _ (fun _ _=>hS) ?_
    try simp only[pu]
    have hXb:Below w.heap.size w _:=aa x3 hw2 x3.size;have hXl:V.heap.size≤Vd.heap.size:=hw.size;clear hw;generalize Vd.heap.size=X at hX hXl ⊢;generalize World.alloc Vd _=w5 at hX hw2 hS hXb ⊢;refine ang 12 (fun K hK=>?_);go_simp;refine(RN base X P (.slice AR s.rs.length cr) s.rs ⟨a.name,a.n,0⟩ w5 (Hrs.out.below iG.fair hXb) (by rw[HP.out];exact uH _ _) hrl hX (fun e=>by have:=(Hrs.out.lt e).2;have:=x3.size;omega) (Nat.le_trans hb hXb.size)).mono ?_;rintro e w6 ⟨v6,rfl,ho6,hg6,hv6⟩;rw[hrow] at hg6 hv6;have hlw:=Nat.lt_of_lt_of_le hgw hXb.size;have hwx:w.heap.size<w5.heap.size:=by have:=hw2.size;omega
    have hgr6:row≠some g:=fun e=>by subst e;exact H.out.ne rfl
    have hwr6:row≠some w.heap.size:=fun e=>by rw[←hrow] at e;have:=(Hrs.out.lt e).2;omega
    have y6:=(Hbx.out.below hXb hgw).grown hg6 hgr6;obtain⟨-,g1,-⟩:=AddBox.go y6;have gf:=y6.frozen 1;clear y6;have x6:=(x1.below hw2 hwl).grown hg6 hwr6;have hS6:(fun W'=>LL W' w.heap.size 1 (O a.n)∧LL W' w.heap.size 3 (.string a.name)∧LL W' g 1 (.slice AR s.rs.length cr)) w6:=⟨x6.cell 1,x6.cell 3,g1⟩;have hl6:=Nat.lt_of_lt_of_le hlw hg6.size;obtain⟨hN,hTo⟩:=H.out.setR hXb hg6 ho6 hv6;clear hS;have hS:=hS6;clear hS6;obtain⟨A6,c6,rfl,-⟩:=ho6.form;clear ho6;refine hK.out _ _ (fun _ _=>hS) ?_
    try simp only[pu]
    apply ppP 13;apply ppP 14
    try simp only[pu]
    refine ang 15 (fun K hK=>?_);go_simp;refine hK.out _ _ nay ?_
    try simp only[pu]
    refine anf ?_ _;go_wp2;go_ret;refine⟨rfl,S,_,hN,fun _ h=>.inl h,?_,hTo⟩;rcases hv6 with h | h
    ·exact .inl h
    ·exact .inr fun k e=>Nat.le_trans hXb.size (h k e)
def qW (base:Nat)(w:World):Prop:=∀ W,Below base w W→Words W∧wO W∧Lists W
theorem qW.below {base:Nat}{w w':World}(h:qW base w)(hb:Below base w w'):qW base w':=fun W k=>h W (hb.trans k)
theorem UN {rs:List gD}{k:Nat}{x:gD}(h:k≤rs.length):fH (eY rs k x) k=x:=by
 unfold fH eY;rw[List.getElem?_append_right (by rw[List.length_take];exact Nat.min_le_left _ _)];simp[Nat.min_eq_left h]
theorem Fe {rs:List gD}{n:ByteArray}(h:qJ rs n=true):fB rs n<rs.length:=by
 unfold qJ at h;simp only[decide_eq_true_eq] at h;rcases Nat.lt_or_ge (fB rs n) rs.length with hl | hl
 ·exact hl
 ·rw[List.getElem?_eq_none hl] at h;cases h
theorem afW {s:cK}{k:Nat}{b:av}{ps:List Int}(h:(wP s k b ps).1.code≠0):(wP s k b ps).2=s:=by
 unfold wP at h ⊢;split
 ·rfl
 ·rename_i h1
  rw[if_neg h1] at h;split
  ·rfl
  ·rename_i h2
   rw[if_neg h2] at h;exact absurd rfl h
theorem eD.form {T:Nat→Prop}{row:Option Nat}{base g:Nat}{w w':World}{r:kR × cK}{e:Ending}(h:eD T row base g w r e w'):∃ A c,e=.returned (.agg #[O r.1.code,O r.1.n,.string r.1.text,.slice A r.1.flaws.length c]):=by
 obtain⟨cs,S',row',rfl,⟨vf,rfl,hf⟩,-⟩:=h;obtain⟨A,c,rfl,-,-⟩:=hf.form;exact⟨A,c,rfl⟩
theorem eD.stored {S T:Nat→Prop}{row row1:Option Nat}{base g x:Nat}{w w1 w':World}{r:kR × cK}{c0 c1 c2 c3:Value}{zs:List Value}(h:eD T row1 base g w1 r (.returned (.agg #[c0,c1,c2,c3])) w')(ht:Touch row g w w1)(hT:∀ y,T y→S y∨w.heap.size≤y)
  (hr:row1=row∨∀ k,row1=some k→w.heap.size≤k) (hx:w.heap.size≤x) (hx1:Box w1 x 32 zs) (hz:zs.length=4) (hTx:¬ T x) (hrx:row1≠some x) (hgx:x≠g) :
  Box w' x 32 zs∧Box (setCells w' x 0 [c0,c1,c2,c3]) x 32 [c0,c1,c2,c3]∧eD S row base g w r (.returned (.agg #[c0,c1,c2,c3])) (setCells w' x 0 [c0,c1,c2,c3]):=by
 obtain⟨cs,S',row',he,hf,h1,h2,h3,h4⟩:=h;have he2:cs=[c0,c1,c2,c3]:=by
  injection he with he
  injection he with he
  have:=congrArg Array.toList he;simpa using this.symm
 subst he2;clear he;have hl:=hx1.lt;have hb:Box w' x 32 zs:=(h4.block x hl hgx (fun e=>hrx e)).trans hx1;have hx2:row'≠some x:=fun e=>by
  rcases h3 with h | h
  ·exact hrx (h ▸ e)
  ·have:=h _ e;omega
 refine⟨hb,hb.setCells _ hz.symm,_,S',row',rfl,?_,?_,fun y hy=>?_,?_,?_⟩
 ·exact jd.fair.mono (jd.fair.keep hf (az.setCells (fun h=>by have h:w1.heap.size≤x:=h.1;omega) _ 0 w')) (fun y h _=>⟨Nat.le_trans ht.size h.1,h.2⟩)
 ·refine bS.fq hgx hx2 (fun h=>?_) _ 0 _ h1;rcases h2 _ h with h | h
  ·exact hTx h
  ·omega
 ·rcases h2 y hy with h | h
  ·exact hT y h
  ·exact .inr (Nat.le_trans ht.size h)
 ·rcases h3 with rfl | h
  ·exact hr
  ·exact .inr fun k e=>Nat.le_trans ht.size (h k e)
 ·exact Touch.setCells hx _ 0 _ (ht.trans h4 hr)
theorem eD.del {T:Nat→Prop}{row:Option Nat}{base g:Nat}{w w9:World}{r:kR × cK}{e:Ending}(h:eD T row base g w r e w9)(hg:g<w.heap.size) :
  ∃ vr,LL w9 g 1 vr∧g<w9.heap.size∧Own base 61 3 iG NoT w9 vr r.2.rs∧∀ v' w10 rs',Own base 61 3 iG NoT w10 v' rs'→w9.grownBy w10 vr.ownBlock→v'.ownBlock=vr.ownBlock →
   LL w10 g 1 vr∧w10.frozen? ⟨g,1,none⟩=false∧g<w10.heap.size∧eD T row base g w (r.1,⟨r.2.cs,rs',r.2.acts⟩) e (w10.setCell ⟨g,1,none⟩ v'):=by
 obtain⟨cs,S',row',he,hf,h1,h2,h3,h4⟩:=h;have H:=h1;obtain⟨vc,vr,rfl,a2,-,a4,-⟩:=h1;refine⟨vr,a2.cell 1,a2.lt,a4,fun v' w10 rs' ho hgr hv=>?_⟩;have b2:=a2.grown hgr (a2.gV a4 (by decide));obtain⟨k1,k2⟩:=H.setR (Below.here w9) hgr ho (.inl hv);rw[hv] at k1;exact⟨b2.cell 1,b2.frozen 1,b2.lt,cs,S',vr.ownBlock,he,jd.fair.keep (jd.fair.keep hf (az.bH hgr (fun k e h=>h.2 e))) (az.setCell _ _ (fun h=>by have h1:w.heap.size≤g:=h.1;omega)),k1,h2,h3,h4.trans k2 h3⟩
theorem eD.alloc {T:Nat→Prop}{row:Option Nat}{base g:Nat}{w w':World}{r:kR × cK}{e:Ending}(h:eD T row base g w r e w')(o:Obj):eD T row base g w r e (w'.alloc o):=by
 obtain⟨cs,S',row',rfl,h0,h1,h2,h3,h4⟩:=h;have hb:=(Below.here w').alloc (Nat.le_refl _) o;exact⟨cs,S',row',rfl,jd.fair.keep h0 (az.alloc _ _ _),h1.below hb,h2,h3,h4.via hb⟩
theorem commit_results {W:World}{a:Act}{g:Nat}{c0 c1 c2 c3:Value}(hb:Box W g 32 [c0,c1,c2,c3])(h4:a.tmps.getD 4 undef=.pointer (some ⟨g,0,none⟩)) :
  (results f23 a.tmps).run prog W=.ok (.agg #[c0,c1,c2,c3]) W:=by
 have e0:=hb.c 0 rfl;have e1:=hb.c 1 rfl;have e2:=hb.c 2 rfl;have e3:=hb.c 3 rfl;simp only[Array.getD_eq_getD_getElem?] at h4;simp[results,results23,go_sem,h4,e0,e1,e2,e3]
theorem aio {w:World}{X:Nat}{n:Int}{S:Nat→Prop}(h:Box w X 3 [O n])(hS:S X):RSl 1 8 aQ S w [.slice (some ⟨X,0,none⟩) 1 1] [n]:=by
 refine(Own.one (R:=aQ) (x:=n) h (Nat.zero_le _) rfl rfl).read aQ.fair (fun _ h=>h.elim) (fun k e=>?_) (by simp);obtain rfl:X=k:=by simpa[Value.ownBlock] using e
 exact hS
theorem adN {S:Nat→Prop}{row:Option Nat}{base g:Nat}{w:World}{s:cK}(a:mG)(h:bS S row base w g s)(hk:gY s)(ha:a.name.size≤9223372036854775807)(ht:a.text.size≤9223372036854775807)(hb:base≤w.heap.size)(hG:qW base w) :
  Calls prog 23 #[.pointer (some ⟨g,0,none⟩),.agg (fQ a).toArray] w (eD S row base g w (uP s a)):=by
 obtain⟨R,hR⟩:=exE (uP s a);rw[←hR];have HR:=hidL hR;clear hR;have H:=hidL h;have HK:=hidL hk;have HG:=hidL hG;obtain⟨vc,vr,hrow,hbx,hcs,hrs,hnS,hnR,hSw,hbg⟩:=h;obtain⟨x1,x2,x3⟩:=bY w (fQ a) [O 0,O 0,E0,Z0] 35 32;unfold fQ at x1 x2 x3 ⊢;have H1:=hidL (fun W (h:Below w.heap.size w W)=>FH a.name (H.out.below h) hk.sorted (by have:=hk.most.2.1;omega));have H2:=hidL (fun W (h:Below w.heap.size w W)=>Bh a.name W ha (hG W (h.mono hb)).1);have H3:=hidL (fun W (h:Below w.heap.size w W)=>wS a.text W ht (hG W (h.mono hb)).1 (hG W (h.mono hb)).2.1 (hG W (h.mono hb)).2.2);have hgw:=hbx.lt;obtain⟨AC,cc,rfl,-,-⟩:=hcs.form;obtain⟨AR,cr,rfl,-⟩:=hrs.form;have Hbx:=hidL hbx;have Hrs:=hidL hrs;have hgb:=hidL (fun W (h:Below w.heap.size w W)=>AddBox.go (hbx.below h hgw));obtain⟨P,hP⟩:=exE (fB s.rs a.name);obtain⟨B,hB⟩:=exE (qJ s.rs a.name);obtain⟨M,hM⟩:=exE (bJ a.name);obtain⟨⟨pb,pe⟩,hQ⟩:∃ B,B=iZ (bytes a.text):=⟨_,rfl⟩;rw[←hM] at H2;rw[←hP,←hB] at H1;rw[←hQ] at H3;have HP:=hidL hP;have HB:=hidL hB;have HM:=hidL hM;have HQ:=hidL hQ;clear hP hB hM hQ hcs hrs hbx hG hk;go_enter func23,ntmps23;go_upto_region 1 with fail;generalize World.alloc (World.alloc w _) _=W0 at x1 x2 x3 ⊢;have hc3:=x1.c 3 rfl;have hwl:=x1.lt;go_wp2_with fail;refine(H2.out _ x3).mono ?_;rintro e w2 ⟨rfl,rfl⟩;cases M with
 | false =>
  have hr:R=(dY 1,s):=by rw[HR.out,uP,if_pos HM.out.symm]
  subst hr;obtain⟨r0,r1,r2,r3,g0,g1,g2,g3,lr⟩:=x2.rr4;go_wp2_with fail;change bodyPost _ _ _ _ _ (setCells _ (w.heap.size+1) 0 [O 1,O 0,E0,Z0]);have hz:=x2.setCells [O 1,O 0,E0,Z0] rfl;have hB:=below_setCells (B:=w.heap.size) (g:=w.heap.size+1) (by omega) [O 1,O 0,E0,Z0] 0 _ x3;exact bodyPost_ret (commit_results hz rfl) rfl (eD.same H.out hB jd.flat fun _ h=>h)
 | true =>
  have hR2:=HR.out;rw[uP,if_neg (by rw[←HM.out];simp),←HQ.out,←HB.out,←HP.out] at hR2;dsimp only at hR2;have HR2:=hidL hR2;clear hR2;have hc5:=x1.c 5 rfl;go_wp2_with fail;refine(H3.out _ x3).mono ?_;rintro e w3 ⟨v3,rfl,hr3,hb3⟩;obtain⟨AV,cV,rfl,-,-⟩:=hr3.form;have x3b:=aa x3 hb3 x3.size;have x1b:=x1.below hb3 x1.lt;have x2b:=x2.below hb3 x2.lt;have x4:=Box.new w3 38 [.slice AV pb.length cV];have hA:=(Below.here w3).alloc (Nat.le_refl _) (.cells [.slice AV pb.length cV].toArray 38);have hG0:=(hb3.mono (Nat.le_refl _)).alloc hb3.size (.cells [.slice AV pb.length cV].toArray 38);have x3c:=x3b.alloc x3b.size (.cells [.slice AV pb.length cV].toArray 38);have x1c:=x1b.below hA x1b.lt;have x2c:=x2b.below hA x2b.lt;have hrc:=(RSl.fair ah.fair).keep ((RSl.fair ah.fair).mono hr3 (T:=fun y=>w2.heap.size≤y∧y<w3.heap.size) (fun y h k=>⟨h,k⟩)) (az.of_below hA);have hb3s:=hb3.size;have hw02:w.heap.size+2≤w2.heap.size:=by have:=x2.lt;omega
  clear hc3 hc5 hwl x1 x2 x1b x2b x3b hr3 hb3 hA
  by_cases hpe:pe=0
  ·subst hpe;go_upto_region 6 with fail;generalize w3.heap.size=bb at x4 hrc hb3s ⊢;generalize World.alloc w3 _=w4 at x1c x2c x3c x4 hG0 hrc ⊢;have hc3:=x1c.c 3 rfl;have hwl:=x1c.lt;go_wp2_with fail;refine(H1.out _ x3c).mono ?_;rintro e w5 ⟨rfl,hb5⟩;have x3:=aa x3c hb5 x3c.size;have x1:=x1c.below hb5 x1c.lt;have x2:=x2c.below hb5 x2c.lt;replace x4:=x4.below hb5 x4.lt;replace hG0:=aa hG0 hb5 hG0.size;have Hrc:=hidL ((RSl.fair ah.fair).below hrc hb5);clear hc3 hwl hb5 x1c x2c x3c hrc;go_upto_region 7 with fail;have hc1:=x1.c 1 rfl;have hwl:=x1.lt;obtain⟨-,g1,-⟩:=hgb.out _ x3;have hgl:=Nat.lt_of_lt_of_le hgw x3.size;cases B with
   | false =>
    by_cases hn1:a.n = -1
    ·have hd1:(a.n != -1)=false:=by simpa using hn1
     have hd2:(a.n == -1)=true:=by simpa using hn1
     have hS:(fun W'=>LL W' w.heap.size 1 (O a.n)∧LL W' g 1 (.slice AR s.rs.length cr)) w5.drew:=⟨hc1,g1⟩;have x3':=au x3;refine aJ (fun W'=>LL W' w.heap.size 1 (O a.n)∧LL W' g 1 (.slice AR s.rs.length cr)) (fun _=>true) (by kernel_rfl) ?_;clear hc1 g1;apply ppP 0;apply ppP 1;apply ppP 2;apply ppP 3;apply tkP 4 hS;apply ppP 5;apply ppP 6;apply ppP 7;apply ppP 8;apply ppP 9;apply skP 10 hS;apply skP 11 hS;apply skP 12 hS;apply skP 13 hS;apply skP 14 hS;apply skP 15 hS;apply skP 16 hS;apply skP 17 hS;apply skP 18 hS;apply skP 19 hS;apply skP 20 hS;apply ppP 21;apply ppP 22;apply ppP 23
     try simp only[pu]
     refine anf ?_ _;clear hS x3 hgl hwl;replace x1:=x1.drew;replace x2:=x2.drew;replace x4:=x4.drew;replace hG0:=au hG0;have Hrd:=hidL ((RSl.fair ah.fair).keep Hrc.out (az.drew _ _));clear Hrc;generalize w5.drew=V at x1 x2 x3' x4 hG0 Hrd ⊢;have x3:=x3';clear x3';obtain⟨-,g1,-⟩:=hgb.out _ x3;have hgl:=Nat.lt_of_lt_of_le hgw x3.size
     by_cases h6:6≤s.rs.length
     ·have hd3:decide ((s.rs.length:Int)≥6)=true:=by simp;omega
      have hr:R=(dY 12,s):=by rw[HR2.out,if_neg (by simp),if_neg (by simp),if_neg (by simp[hn1]),if_pos h6]
      subst hr;obtain⟨r0,r1,r2,r3,g0,g1,g2,g3,lr⟩:=x2.rr4;go_wp2_with fail;change bodyPost _ _ _ _ _ (setCells _ (w.heap.size+1) 0 [O 12,O 0,E0,Z0]);have hz:=x2.setCells [O 12,O 0,E0,Z0] rfl;have hB:=below_setCells (B:=w.heap.size) (g:=w.heap.size+1) (by omega) [O 12,O 0,E0,Z0] 0 _ x3;exact bodyPost_ret (commit_results hz rfl) rfl (eD.same H.out hB jd.flat fun _ h=>h)
     ·have hd3:decide ((s.rs.length:Int)≥6)=false:=by simp;omega
      have hc3:=x1.c 3 rfl;have hwl:=x1.lt;go_upto_region 13 with fail;have hS:(fun W'=>LL W' w.heap.size 3 (.string a.name)∧LL W' g 1 (.slice AR s.rs.length cr)) V.drew:=⟨hc3,g1⟩;have hHS:=hidL (fun W (h:Below V.heap.size V W)=>show (fun W'=>LL W' w.heap.size 3 (.string a.name)∧LL W' g 1 (.slice AR s.rs.length cr)) W from⟨(h.cell (p:=⟨w.heap.size,3,none⟩) hwl).trans hc3,(h.cell (p:=⟨g,1,none⟩) hgl).trans g1⟩);have hw:=au (Below.here V);clear hc3 g1;refine aJ (fun W'=>LL W' w.heap.size 3 (.string a.name)∧LL W' g 1 (.slice AR s.rs.length cr)) (fun i=>decide (i<13)) (by kernel_rfl) ?_;generalize V.drew=Vd at hS hw ⊢;apply ppP 0;apply ppP 1;apply ppP 2;apply ppP 3;apply tkP 4 hS;apply ppP 5;apply ppP 6;apply tkP 7 hS;apply ppP 8
      try simp only[pu]
      refine ang 9 (fun K hK=>?_);go_simp;have hX:=Box.new Vd 61 [.string a.name,O (-1),O 0];have hw2:=hw.alloc hw.size (.cells [.string a.name,O (-1),O 0].toArray 61);replace hS:=hHS.out _ hw2;refine hK.out _ _ (fun _ _=>hS) ?_
      try simp only[pu]
      have hXb:Below w.heap.size w _:=aa x3 hw2 x3.size;have hXl:V.heap.size≤Vd.heap.size:=hw.size;clear hw;generalize Vd.heap.size=X at hX hXl ⊢;generalize World.alloc Vd _=w5 at hX hw2 hS hXb ⊢;refine ang 10 (fun K hK=>?_);go_simp;refine(RN base X P (.slice AR s.rs.length cr) s.rs ⟨a.name,-1,0⟩ w5 (Hrs.out.below iG.fair hXb) (by rw[HP.out];exact uH _ _) (by have:=HK.out.most.2.1;omega) hX (fun e=>by have:=(Hrs.out.lt e).2;have:=x3.size;omega) (Nat.le_trans hb hXb.size)).mono ?_;rintro e w6 ⟨v6,rfl,ho6,hg6,hv6⟩;rw[hrow] at hg6 hv6;have hlw:=Nat.lt_of_lt_of_le hgw hXb.size;have hgr6:row≠some g:=fun e=>by subst e;exact H.out.ne rfl
      have hlr6:∀ k,row=some k→base≤k∧k<w.heap.size:=fun k e=>by subst e;exact H.out.GM
      have hfr6:∀ k,w.heap.size≤k→row≠some k:=fun k h e=>by have:=(hlr6 k e).2;omega
      have y6:=(Hbx.out.below hXb hgw).grown hg6 hgr6;obtain⟨-,g1,-⟩:=AddBox.go y6;have gf:=y6.frozen 1;have x16:=(x1.below hw2 hwl).grown hg6 (hfr6 _ (Nat.le_refl _));have x26:=(x2.below hw2 x2.lt).grown hg6 (hfr6 _ (Nat.le_succ _));have x46:=(x4.below hw2 x4.lt).grown hg6 (hfr6 _ (by have:=x3.size;omega));have hr6:=(RSl.fair ah.fair).keep ((RSl.fair ah.fair).below Hrd.out hw2) (az.bH hg6 (fun k e h=>by have:=(hlr6 k e).2;have:=hG0.size;omega));have hl6:=Nat.lt_of_lt_of_le hlw hg6.size;obtain⟨hN,hTo⟩:=H.out.setR hXb hg6 ho6 hv6;clear hS y6;have hS:(fun W'=>LL W' w.heap.size 3 (.string a.name)∧LL W' g 1 (.slice AR s.rs.length cr)) w6:=⟨x16.cell 3,g1⟩;obtain⟨A6,c6,rfl,-⟩:=ho6.form;clear ho6;refine hK.out _ _ (fun _ _=>hS) ?_
      try simp only[pu]
      apply ppP 11;apply ppP 12
      try simp only[pu]
      refine ang 13 (fun K hK=>?_);go_simp;refine hK.out _ _ nay ?_
      try simp only[pu]
      refine anf ?_ _;have x27:=x26.far (p:=⟨g,1,none⟩) (show w.heap.size+1≠g by omega) (.slice A6 (eY s.rs P ⟨a.name,-1,0⟩).length c6);have x47:=x46.far (p:=⟨g,1,none⟩) (show bb≠g by omega) (.slice A6 (eY s.rs P ⟨a.name,-1,0⟩).length c6);have hr7:=(RSl.fair ah.fair).keep hr6 (az.setCell w6 (a:=⟨g,1,none⟩) (.slice A6 (eY s.rs P ⟨a.name,-1,0⟩).length c6) (fun h=>by have h:=h.1;have h:w2.heap.size≤g:=h;omega));have hil:(eY s.rs P ⟨a.name,-1,0⟩).length=s.rs.length+1:=IV (by rw[HP.out];exact uH _ _);have hb5:bb<w5.heap.size:=Nat.lt_of_lt_of_le x4.lt hw2.size;have hs7:w5.heap.size≤(w6.setCell ⟨g,1,none⟩ (.slice A6 (eY s.rs P ⟨a.name,-1,0⟩).length c6)).heap.size:=by simpa using hg6.size
      obtain⟨row1,hrow1⟩:=exE ((Value.slice A6 (eY s.rs P ⟨a.name,-1,0⟩).length c6).ownBlock);rw[←hrow1] at hN hv6;have hrv:∀ k,row1=some k→k<w.heap.size∨w5.heap.size≤k:=fun k e=>by
       rcases hv6 with h | h
       ·exact .inl (hlr6 k (h ▸ e)).2
       ·exact .inr (h k e)
      have hrv2:row1=row∨∀ k,row1=some k→w.heap.size≤k:=hv6.imp id fun h k e=>Nat.le_trans hXb.size (h k e)
      clear hrow1 x26 x46 hr6 x16 g1 gf hS hHS hw2 hX hXb hXl hg6;generalize World.setCell w6 _ _=w7 at hN hTo x27 x47 hr7 hs7 ⊢;have hPl:P≤s.rs.length:=by rw[HP.out];exact uH _ _
      have hr2:=HR2.out;rw[if_neg (by simp),if_neg (by simp),if_neg (by simp[hn1]),if_neg h6] at hr2;obtain⟨xa,hxa⟩:=exE (wP ⟨s.cs,eY s.rs P ⟨a.name,-1,0⟩,s.acts⟩ P pb []);have hadd:=Xd (fun y=>w2.heap.size≤y∧y<bb) _ (Z0) P pb [] hN hr7 RSl.dJ (fun h=>by have h:w2.heap.size≤g:=h.1;omega)
       (fun y e h=>by have h1:w2.heap.size≤y:=h.1;have h2:y<bb:=h.2;have:=hrv y e;omega) (fun y h=>by have h2:y<bb:=h.2;omega) (by show P<(eY s.rs P ⟨a.name,-1,0⟩).length;omega) HK.out.most.1
       (by show (eY s.rs P ⟨a.name,-1,0⟩).length≤1000;have:=HK.out.most.2.1;omega) (by show 0≤(fH (eY s.rs P ⟨a.name,-1,0⟩) P).policy∧(fH (eY s.rs P ⟨a.name,-1,0⟩) P).policy≤3;rw[UN hPl];simp)
       (fun c h=>iA (HK.out.books c h)) (iA (by have:=yR (s:=bytes a.text) (by rw[←HQ.out]);rwa [←HQ.out] at this)) (HG.out w7 (hTo.aeJ hb hbg (fun k e=>(hlr6 k e).1))).1
      rw[←hxa] at hadd hr2;have HA:=hidL hadd;have Hxa:=hidL hxa;have Hr2:=hidL hr2;have q4:=x47.c 0 rfl;have ql4:=x47.lt;clear hadd hxa hr2 HR2 x47;go_wp2_with fail;refine HA.out.mono ?_;intro e w8 hp;obtain⟨A8,k8,rfl⟩:=hp.form;have hp9:=hp.alloc (.cells [O xa.1.code,O xa.1.n,.string xa.1.text,.slice A8 xa.1.flaws.length k8].toArray 32);have y9:=Box.new w8 32 [O xa.1.code,O xa.1.n,.string xa.1.text,.slice A8 xa.1.flaws.length k8];obtain⟨-,-,hgy,-⟩:=hp.del (by omega);go_upto_region 15 with fail;generalize w8.heap.size=y8 at y9 hgy ⊢;generalize World.alloc w8 _=w9 at hp9 y9 ⊢;clear x1 x3 hgl hp;have hTx:¬ (fun y=>S y∨w2.heap.size≤y∧y<bb) (w.heap.size+1):=fun h=>by
       rcases h with h | h
       ·have:=hSw _ h;omega
       ·omega
      have hTS:∀ y,(S y∨w2.heap.size≤y∧y<bb)→S y∨w.heap.size≤y:=fun y h=>h.imp id fun h=>by omega
      have hrx:row1≠some (w.heap.size+1):=fun e=>by have:=hrv _ e;omega
      by_cases hco:xa.1.code=0
      ·--[DONE
       have hd4:(xa.1.code != 0)=false:=by simpa using hco
       have hd5:(xa.1.code==0)=true:=by simpa using hco
       have hr:R=xa:=by rw[Hr2.out,if_neg (by simpa using hco)]
       subst hr;obtain⟨k1,k2,k3⟩:=hp9.stored hTo hTS hrv2 (Nat.le_succ _) x27 rfl hTx hrx (by omega);obtain⟨r0,r1,r2,r3,g0,g1,g2,g3,lr⟩:=k1.rr4;obtain⟨y0,y1,y2,y3,-,-,-,-,ly⟩:=y9.rr4;clear hd3 hlr6 hfr6 hrv hrv2 hco;go_wp2_with fail;exact bodyPost_ret (commit_results k2 rfl) rfl k3
      ·--[DEL
       have hd4:(xa.1.code != 0)=true:=by simpa using hco
       have hd5:(xa.1.code==0)=false:=by simpa using hco
       have hr:R=(xa.1,⟨xa.2.cs,pV xa.2.rs P,xa.2.acts⟩):=by rw[Hr2.out,if_pos hco]
       subst hr;have hs1:xa.2.rs=eY s.rs P ⟨a.name,-1,0⟩:=by rw[Hxa.out,afW (by rw[←Hxa.out];exact hco)]
       have hsl:xa.2.rs.length=s.rs.length+1:=by rw[hs1,hil]
       obtain⟨vr,d0,dl,dO,dN⟩:=hp9.del (by omega);obtain⟨AD,cD,rfl,-⟩:=dO.form;have e2:IntKind.i64.wrap ((P:Int)+1)=(P:Int)+1:=IntWalk.i64_in _ (by have:=HK.out.most.2.1;omega);have HD:=hidL (Rj base P _ xa.2.rs w9 dO (by omega) (by have:=HK.out.most.2.1;omega));have y0:=y9.c 0 rfl;have ly:=y9.lt;clear hd3 hlr6 hfr6 hrv hs1 hsl hil;go_wp2_with fail;refine HD.out.mono ?_;rintro e w10 ⟨v10,rfl,ho10,hg10,hv10⟩;obtain⟨d1,d2,d3,hp10⟩:=dN v10 w10 _ ho10 hg10 hv10;obtain⟨AE,cE,rfl,-⟩:=ho10.form;have y10:=(y9.grown hg10 (y9.gV dO (by decide))).far (p:=⟨g,1,none⟩) (show y8≠g by omega) (.slice AE (pV xa.2.rs P).length cE);clear y0 ly d0 dl;go_upto_region 17 with fail;generalize World.setCell w10 _ _=w11 at hp10 y10 ⊢;obtain⟨k1,k2,k3⟩:=hp10.stored hTo hTS hrv2 (Nat.le_succ _) x27 rfl hTx hrx (by omega);obtain⟨r0,r1,r2,r3,g0,g1,g2,g3,lr⟩:=k1.rr4;obtain⟨y0,y1,y2,y3,-,-,-,-,ly⟩:=y10.rr4;clear d1 d2 d3;go_wp2_with fail;exact bodyPost_ret (commit_results k2 rfl) rfl k3
    ·have hd1:(a.n != -1)=true:=by simpa using hn1
     have hd2:(a.n == -1)=false:=by simpa using hn1
     have hr:R=(dY 10,s):=by rw[HR2.out,if_neg (by simp),if_neg (by simp),if_pos hn1]
     subst hr;have hS:(fun W'=>LL W' w.heap.size 1 (O a.n)∧LL W' g 1 (.slice AR s.rs.length cr)) w5.drew:=⟨hc1,g1⟩;have x3':=au x3;refine aJ (fun W'=>LL W' w.heap.size 1 (O a.n)∧LL W' g 1 (.slice AR s.rs.length cr)) (fun _=>true) (by kernel_rfl) ?_;clear hc1 g1;apply ppP 0;apply ppP 1;apply ppP 2;apply ppP 3;apply tkP 4 hS;apply ppP 5;apply ppP 6;apply ppP 7;apply skP 8 hS;apply skP 9 hS;apply skP 10 hS;apply skP 11 hS;apply skP 12 hS;apply skP 13 hS;apply skP 14 hS;apply skP 15 hS;apply skP 16 hS;apply skP 17 hS;apply skP 18 hS;apply skP 19 hS;apply skP 20 hS;apply skP 21 hS;apply ppP 22;apply ppP 23
     try simp only[pu]
     refine anf ?_ _;clear hS x3 hgl hwl;replace x1:=x1.drew;replace x2:=x2.drew;replace x4:=x4.drew;replace hG0:=au hG0;have Hrd:=hidL ((RSl.fair ah.fair).keep Hrc.out (az.drew _ _));clear Hrc;generalize w5.drew=V at x1 x2 x3' x4 hG0 Hrd ⊢;have x3:=x3';clear x3';obtain⟨r0,r1,r2,r3,g0,g1,g2,g3,lr⟩:=x2.rr4;go_wp2_with fail;change bodyPost _ _ _ _ _ (setCells _ (w.heap.size+1) 0 [O 10,O 0,E0,Z0]);have hz:=x2.setCells [O 10,O 0,E0,Z0] rfl;have hB:=below_setCells (B:=w.heap.size) (g:=w.heap.size+1) (by omega) [O 10,O 0,E0,Z0] 0 _ x3;exact bodyPost_ret (commit_results hz rfl) rfl (eD.same H.out hB jd.flat fun _ h=>h)
   | true =>
    have hPl:P<s.rs.length:=by rw[HP.out];exact Fe HB.out.symm
    obtain⟨gr,rfl,hbr,hgrl⟩:=Hrs.out.qR (by omega);obtain rfl:row=some gr:=hrow.symm;obtain⟨cm,hcm⟩:=exE ((fH s.rs P).commit:Int);obtain⟨cs,-,hcr,hly⟩:=(Hrs.out.below iG.fair x3).cells hPl;obtain rfl:cs=aN s.rs[P]:=hcr;have c2:=hly.at_ 1 rfl;rw[←nD hPl,←hcm] at c2;have hkl:(P:Int)<s.rs.length:=by omega
    have hlr:=Nat.lt_of_lt_of_le hgrl x3.size;have Hcm:=hidL hcm;clear hly hcm
    by_cases hn1:cm=a.n
    ·have hd1:(cm != a.n)=false:=by simpa using hn1
     have hd2:(cm==a.n)=true:=by simpa using hn1
     have hS:(fun W'=>LL W' w.heap.size 1 (O a.n)∧LL W' g 1 (.slice (some ⟨gr,0,none⟩) s.rs.length cr)∧LL W' gr (P*3+1) (O cm)) w5.drew:=⟨hc1,g1,c2⟩;have x3':=au x3;refine aJ (fun W'=>LL W' w.heap.size 1 (O a.n)∧LL W' g 1 (.slice (some ⟨gr,0,none⟩) s.rs.length cr)∧LL W' gr (P*3+1) (O cm)) (fun _=>true) (by kernel_rfl) ?_;clear hc1 g1 c2;apply ppP 0;apply ppP 1;apply ppP 2;apply skP 3 hS;apply skP 4 hS;apply skP 5 hS;apply ppP 6;apply ppP 7;apply ppP 8;apply ppP 9;apply ppP 10;apply ppP 11;apply ppP 12;apply tkP 13 hS;apply ppP 14;apply ppP 15;apply ppP 16;apply tkP 17 hS;apply ppP 18;apply tkP 19 hS;apply ppP 20;apply ppP 21;apply ppP 22;apply ppP 23
     try simp only[pu]
     refine anf ?_ _;clear hS x3 hgl hwl;replace x1:=x1.drew;replace x2:=x2.drew;replace x4:=x4.drew;replace hG0:=au hG0;have Hrd:=hidL ((RSl.fair ah.fair).keep Hrc.out (az.drew _ _));clear Hrc;generalize w5.drew=V at x1 x2 x3' x4 hG0 Hrd ⊢;have x3:=x3';clear x3';have hr:R=wP s P pb [a.n]:=by rw[HR2.out,if_neg (by simp),if_pos rfl,if_neg (by rw[←Hcm.out];simp[hn1])]
     have hx3:=x3.alloc x3.size (.cells [O a.n].toArray 3);have hkA:=az.alloc (fun y=>w2.heap.size≤y∧y<bb) V (.cells [O a.n].toArray 3);have hXn:=Box.new V 3 [O a.n];have hVl:(V.alloc (.cells [O a.n].toArray 3)).heap.size=V.heap.size+1:=by simp
     have x2A:=x2.alloc (.cells [O a.n].toArray 3);have hbV:=x4.lt;have hwV:=hG0.size;have hadd:=Xd (fun y=>w2.heap.size≤y∧y<V.heap.size+1) _ (.slice (some ⟨V.heap.size,0,none⟩) 1 1) P pb [a.n] (H.out.below hx3) ((RSl.fair ah.fair).mono ((RSl.fair ah.fair).keep Hrd.out hkA) (fun y h _=>⟨h.1,by have h2:y<bb:=h.2;omega⟩)) (aio hXn ⟨hwV,Nat.lt_succ_self _⟩) (fun h=>by have h:w2.heap.size≤g:=h.1;omega)
      (fun y e h=>by obtain rfl:=Option.some.inj e;have h1:w2.heap.size≤gr:=h.1;omega) (fun y h=>by have h2:y<V.heap.size+1:=h.2;omega) hPl HK.out.most.1
      (by have:=HK.out.most.2.1;omega) (by have:=HK.out.refs _ (List.getElem_mem hPl);rw[nD hPl];exact⟨this.2.2.1,this.2.2.2.1⟩)
      (fun c h=>iA (HK.out.books c h)) (iA (by have:=yR (s:=bytes a.text) (by rw[←HQ.out]);rwa [←HQ.out] at this)) (HG.out _ (hx3.mono hb)).1
     rw[←hr] at hadd;have HA:=hidL hadd;have hc1:=x1.c 1 rfl;have hwl:=x1.lt;have q4:=x4.c 0 rfl;clear hadd HR2 hXn hr hkA;go_wp2_with fail;refine HA.out.mono ?_;intro e w8 hp;obtain⟨A8,k8,rfl⟩:=hp.form;obtain⟨k1,k2,k3⟩:=hp.stored (S:=S) (Touch.below hx3) (fun y h=>h.imp id fun h=>by have h:w2.heap.size≤y:=h.1;omega) (.inl rfl) (Nat.le_succ _) x2A rfl (fun h=>by
      rcases h with h | h
      ·have:=hSw _ h;omega
      ·have h:w2.heap.size≤w.heap.size+1:=h.1;omega) (fun e=>by have:=Option.some.inj e;omega) (by omega)
     obtain⟨r0,r1,r2,r3,g0,g1,g2,g3,lr⟩:=k1.rr4;clear hc1 hwl q4 x1 x2 x4;go_wp2_with fail;exact bodyPost_ret (commit_results k2 rfl) rfl k3
    ·have hd1:(cm != a.n)=true:=by simpa using hn1
     have hd2:(cm==a.n)=false:=by simpa using hn1
     have hr:R=(dY 10,s):=by rw[HR2.out,if_neg (by simp),if_pos rfl,if_pos (by rw[←Hcm.out];exact hn1)]
     subst hr;have hS:(fun W'=>LL W' w.heap.size 1 (O a.n)∧LL W' g 1 (.slice (some ⟨gr,0,none⟩) s.rs.length cr)∧LL W' gr (P*3+1) (O cm)) w5.drew:=⟨hc1,g1,c2⟩;have x3':=au x3;refine aJ (fun W'=>LL W' w.heap.size 1 (O a.n)∧LL W' g 1 (.slice (some ⟨gr,0,none⟩) s.rs.length cr)∧LL W' gr (P*3+1) (O cm)) (fun _=>true) (by kernel_rfl) ?_;clear hc1 g1 c2;apply ppP 0;apply ppP 1;apply ppP 2;apply skP 3 hS;apply skP 4 hS;apply skP 5 hS;apply ppP 6;apply ppP 7;apply ppP 8;apply ppP 9;apply ppP 10;apply ppP 11;apply ppP 12;apply tkP 13 hS;apply ppP 14;apply ppP 15;apply ppP 16;apply tkP 17 hS;apply ppP 18;apply tkP 19 hS;apply ppP 20;apply ppP 21;apply ppP 22;apply ppP 23
     try simp only[pu]
     refine anf ?_ _;clear hS x3 hgl hwl;replace x1:=x1.drew;replace x2:=x2.drew;replace x4:=x4.drew;replace hG0:=au hG0;have Hrd:=hidL ((RSl.fair ah.fair).keep Hrc.out (az.drew _ _));clear Hrc;generalize w5.drew=V at x1 x2 x3' x4 hG0 Hrd ⊢;have x3:=x3';clear x3';obtain⟨r0,r1,r2,r3,g0,g1,g2,g3,lr⟩:=x2.rr4;go_wp2_with fail;change bodyPost _ _ _ _ _ (setCells _ (w.heap.size+1) 0 [O 10,O 0,E0,Z0]);have hz:=x2.setCells [O 10,O 0,E0,Z0] rfl;have hB:=below_setCells (B:=w.heap.size) (g:=w.heap.size+1) (by omega) [O 10,O 0,E0,Z0] 0 _ x3;exact bodyPost_ret (commit_results hz rfl) rfl (eD.same H.out hB jd.flat fun _ h=>h)
  ·have he1:(pe==0)=false:=by simpa using hpe
   have he2:(pe != 0)=true:=by simpa using hpe
   have hr:R=(dY pe,s):=by rw[HR2.out,if_pos hpe]
   subst hr;go_upto_region 4 with fail;generalize World.alloc w3 _=w4 at x1c x2c x3c ⊢;obtain⟨r0,r1,r2,r3,g0,g1,g2,g3,lr⟩:=x2c.rr4;go_wp2_with fail;change bodyPost _ _ _ _ _ (setCells _ (w.heap.size+1) 0 [O pe,O 0,E0,Z0]);have hz:=x2c.setCells [O pe,O 0,E0,Z0] rfl;have hB:=below_setCells (B:=w.heap.size) (g:=w.heap.size+1) (by omega) [O pe,O 0,E0,Z0] 0 _ x3c;exact bodyPost_ret (commit_results hz rfl) rfl (eD.same H.out hB jd.flat fun _ h=>h)
theorem Ls {S:Nat→Prop}{w:World}{gL oL n cc i:Nat}{cs:List fD}(h:RSl 2 48 dw S w [.slice (some ⟨gL,oL,none⟩) n cc] cs)(hi:i<cs.length) :
  ∃ P p Q q,RSl 5 96 ah S w [.slice P cs[i].book.length p] cs[i].book∧RSl 1 8 aQ S w [.slice Q cs[i].parents.length q] cs[i].parents ∧
   ∀ W,Below w.heap.size w W→LL W gL (oL+i*2) (.slice P cs[i].book.length p)∧LL W gL (oL+i*2+1) (.slice Q cs[i].parents.length q)∧gL<W.heap.size:=by
 obtain⟨g',o',e,hS,hg⟩:=h.base (by omega);have e:=Option.some.inj e;injection e with e1 e2
 subst e1;subst e2;obtain⟨es,-,hrc,hl⟩:=h.lies hi;obtain⟨P,p,Q,q,rfl,h1,h2⟩:=hrc.parts;exact⟨P,p,Q,q,h1,h2,fun W hb=>⟨by have:=(hl.keep (az.of_below hb) hS).at_ 0 rfl;simpa using this,(hl.keep (az.of_below hb) hS).at_ 1 rfl,Nat.lt_of_lt_of_le hg hb.size⟩⟩
theorem AZ {S:Nat→Prop}{w:World}{gL oL n cc i:Nat}{cs:List fD}(h:RSl 2 48 dw S w [.slice (some ⟨gL,oL,none⟩) n cc] cs)(hi:i<cs.length) :
  ∃ P p,RSl 5 96 ah S w [.slice P cs[i].book.length p] cs[i].book∧∀ W,Below w.heap.size w W→LL W gL (oL+i*2) (.slice P cs[i].book.length p)∧gL<W.heap.size:=by
 obtain⟨P,p,_,_,h1,_,h2⟩:=Ls h hi;exact⟨P,p,h1,fun W hb=>⟨(h2 W hb).1,(h2 W hb).2.2⟩⟩
theorem aap (l:List fD)(a b:Int):xz l a b<0∨0≤xz l a b∧xz l a b<l.length:=by
 unfold xz;cases h:((dZ l a).filter fun n=>dV (dZ l b) n).getLast? with
 | none=>exact .inl (by decide)
 | some x =>
  have hm:=(List.mem_filter.1 (List.mem_of_getLast? h)).1;have:=xL hm;exact .inr ⟨this.1,this.2.2⟩
theorem Td {was a b:av}(h:(fC was a b).2.2=0):aB (fC was a b).1=0:=by
 unfold fC at h ⊢;split
 ·rename_i h1;rw[if_pos h1] at h;cases h
 ·rename_i h1
  rw[if_neg h1] at h;split
  ·rename_i h2;rw[if_pos h2] at h;cases h
  ·rename_i h2
   rw[if_neg h2] at h;split
   ·rename_i h3;rw[if_pos h3] at h;exact absurd h h3
   ·rename_i h3;exact Classical.not_not.1 h3
theorem ajW {w:World}{X:Nat}{m n:Int}{S:Nat→Prop}(h:Box w X 3 [O m,O n])(hS:S X):RSl 1 8 aQ S w [.slice (some ⟨X,0,none⟩) 2 2] [m,n]:=by
 refine⟨_,2,rfl,Nat.le_refl _,by simp,fun k x hx=>⟨X,0,[O x],rfl,hS,h.lt,rfl,rfl,fun j hj=>?_⟩⟩;have hj:j<1:=hj;obtain rfl:j=0:=by omega
 rcases k with _ | _ | k
 ·obtain rfl:=Option.some.inj hx;exact h.cell 0
 ·obtain rfl:=Option.some.inj hx;exact h.cell 1
 ·simp at hx
theorem merge_results {W:World}{a:Act}{g:Nat}{c0 c1 c2 c3:Value}(hb:Box W g 32 [c0,c1,c2,c3])(h4:a.tmps.getD 6 undef=.pointer (some ⟨g,0,none⟩)) :
  (results f57 a.tmps).run prog W=.ok (.agg #[c0,c1,c2,c3]) W:=by
 have e0:=hb.c 0 rfl;have e1:=hb.c 1 rfl;have e2:=hb.c 2 rfl;have e3:=hb.c 3 rfl;simp only[Array.getD_eq_getD_getElem?] at h4;simp[results,results57,go_sem,h4,e0,e1,e2,e3]
theorem agq {S:Nat→Prop}{row:Option Nat}{base g:Nat}{w:World}{s:cK}(k:Nat)(other:Int)(h:bS S row base w g s)(hk:gY s)(hl:k<s.rs.length)(ho:0≤other∧other<s.cs.length)(hb:base≤w.heap.size)(hG:qW base w) :
  Calls prog 57 #[.pointer (some ⟨g,0,none⟩),O k,O other] w (eD S row base g w (zC s k other)):=by
 obtain⟨R,hR⟩:=exE (zC s k other);rw[←hR];have H:=hidL h;have HK:=hidL hk;have HG:=hidL hG;obtain⟨vc,vr,hrow,hbx,hcs,hrs,hnS,hnR,hSw,hbg⟩:=h;obtain⟨x2,x3⟩:=kZ w [O 0,O 0,E0,Z0] 32;have hgw:=hbx.lt;obtain⟨AC,cc,rfl,-,-⟩:=hcs.form;obtain⟨gL,oL,rfl,-,-⟩:=hcs.base (by omega);obtain⟨AR,cr,rfl,-⟩:=hrs.form;obtain⟨gr,rfl,hbr,hgrl⟩:=hrs.qR (by omega);obtain rfl:row=some gr:=hrow.symm;obtain⟨own,hown⟩:=exE ((fH s.rs k).commit:Int);have hwr:=hk.refs _ (List.getElem_mem hl);rw[←nD hl,←hown] at hwr;have hgb:=hidL (fun W (h:Below w.heap.size w W)=>AddBox.go (hbx.below h hgw));have Hrs:=hidL hrs;have Hcs:=hidL hcs;obtain⟨n,hn⟩:=exE (xz s.cs own other:Int);have hnr:=aap s.cs own other;rw[←hn] at hnr;have HB:=hidL (fun W (h:Below w.heap.size w W)=>aiz S _ s.cs own other W ((RSl.fair dw.fair).below hcs h) (by have:=hk.most.1;omega) hwr.1 hwr.2.1);rw[←hn] at HB;obtain⟨ko,hko⟩:∃ k:Nat,own=k:=⟨own.toNat,by omega⟩;obtain⟨kt,hkt⟩:∃ k:Nat,other=k:=⟨other.toNat,by omega⟩;have hkol:ko<s.cs.length:=by omega
 have hktl:kt<s.cs.length:=by omega
 obtain⟨bO,hbO⟩:=exE (s.cs[ko].book);obtain⟨bT,hbT⟩:=exE (s.cs[kt].book);obtain⟨bW,hbW⟩:=exE (if 0≤n then ib s.cs n else []);obtain⟨PO,po,hrO,hcO⟩:=AZ hcs hkol;obtain⟨PT,pt,hrT,hcT⟩:=AZ hcs hktl;rw[←hbO] at hrO hcO;rw[←hbT] at hrT hcT;have hR2:R=if (fC bW bO bT).2.2≠0 then (⟨(fC bW bO bT).2.2,0,⟨#[]⟩,(fC bW bO bT).2.1⟩,s) else wP s k (fC bW bO bT).1 [own,other]:=by
  rw[hR,zC,←hown,←hn,←hbW,hbO,hbT,←sw hko hkol,←sw hkt hktl]
 have HR:=hidL hR2;have gO:aS bO:=by rw[hbO];exact iA (hk.books _ (List.getElem_mem hkol))
 have gT:aS bT:=by rw[hbT];exact iA (hk.books _ (List.getElem_mem hktl))
 have HgO:=hidL gO;have HgT:=hidL gT;have HbW:=hidL hbW;have HcO:=hidL hcO;have HcT:=hidL hcT;have HrO:=hidL hrO;have HrT:=hidL hrT;obtain⟨cs,-,hcr,hly⟩:=(hrs.below iG.fair x3).cells hl;obtain rfl:cs=aN s.rs[k]:=hcr;have c2:=hly.at_ 1 rfl;rw[←nD hl,←hown] at c2;have hkl:(k:Int)<s.rs.length:=by omega
 have hlr:=Nat.lt_of_lt_of_le hgrl x3.size;obtain⟨-,g1,-⟩:=hgb.out _ x3;have hgl:=Nat.lt_of_lt_of_le hgw x3.size;have Hko:=hidL hko;have Hkt:=hidL hkt;have Hnr:=hidL hnr;have Hwr:=hidL hwr;have Hho:=hidL ho;clear hR hR2 hly hk hG hbx hcs hrs hown hn hbO hbT hbW hcO hcT hrO hrT gO gT hko hkt hnr hwr ho;go_enter func57,ntmps57;go_upto_region 1 with fail;generalize World.alloc w _=W0 at x2 x3 c2 hlr g1 hgl ⊢;go_upto_region 3 with fail;clear c2 g1 hlr hgl;have x3c:=x3.alloc x3.size (.cells [Z0].toArray 38);have x2c:=x2.alloc (.cells [Z0].toArray 38);have x4:=Box.new W0 38 [Z0];have hbb:=x2.lt;clear x2 x3;generalize W0.heap.size=bb at x4 hbb ⊢;generalize World.alloc W0 _=w1 at x2c x3c x4 ⊢;obtain⟨g0,-,-⟩:=hgb.out _ x3c;have hgl:=Nat.lt_of_lt_of_le hgw x3c.size;go_wp2_with fail;refine(HB.out _ x3c).mono ?_;rintro e w2 ⟨rfl,hb2⟩;have x3:=aa x3c hb2 x3c.size;have x2:=x2c.below hb2 x2c.lt;replace x4:=x4.below hb2 x4.lt;clear x2c x3c hb2 g0 hgl HB;obtain⟨g0,-,-⟩:=hgb.out _ x3;have hgl:=Nat.lt_of_lt_of_le hgw x3.size
 by_cases hn0:0≤n
 case' neg =>
  have hd1:decide (n≥0)=false:=by simpa using hn0
  have hW0:bW=[]:=by rw[HbW.out,if_neg hn0]
  obtain⟨PW,hPW⟩:=exE (none:Option Addr);obtain⟨pw,hpw⟩:=exE (0:Nat);have hrW:RSl 5 96 ah S w [.slice PW bW.length pw] bW:=by rw[hW0,hPW,hpw];exact RSl.dJ
  have x4V:Box w2 bb 38 [.slice PW bW.length pw]:=by rw[hW0,hPW,hpw];exact x4
  have gW:aS bW:=by rw[hW0];intro t h;cases h
  clear hPW hpw hW0;go_upto_region 6 with fail;have x3V:=x3;have x2V:=x2;clear x2 x3 x4 g0 hgl hd1 hn0;generalize w2=V at x2V x3V x4V ⊢
 case' pos =>
  have hd1:decide (n≥0)=true:=by simpa using hn0
  obtain⟨kw,hkw⟩:∃ k:Nat,n=k:=⟨n.toNat,by omega⟩;have hkwl:kw<s.cs.length:=by have:=Hnr.out;omega
  obtain⟨PW,pw,hrW0,hcW⟩:=AZ Hcs.out hkwl;have hW0:bW=s.cs[kw].book:=by rw[HbW.out,if_pos hn0,sw hkw hkwl]
  rw[←hW0] at hrW0 hcW;have gW:aS bW:=by rw[hW0];exact iA (HK.out.books _ (List.getElem_mem hkwl))
  obtain⟨m0,m2⟩:=hcW _ x3;have hki:(kw:Int)<s.cs.length:=by omega
  have hrW:=hrW0;have q4:=x4.cell 0;have qf:=x4.frozen 0;have ql:=x4.lt;have x4V:=x4.gB 0 (.slice PW bW.length pw);have x3V:=x3.setCell (p:=⟨bb,0,none⟩) (show w.heap.size≤bb by omega) (.slice PW bW.length pw);have x2V:=x2.far (p:=⟨bb,0,none⟩) (show w.heap.size≠bb by omega) (.slice PW bW.length pw);simp only[List.getElem?_cons_zero,List.set_cons_zero] at q4 x4V;clear hW0 hcW hrW0 x2 x3 x4 hkwl;subst hkw;go_upto_region 6 with fail;clear q4 qf ql m0 m2 g0 hgl hd1 hn0 hki;generalize World.setCell w2 _ _=V at x2V x3V x4V ⊢
 all_goals
  have HgW:=hidL gW;have HrW:=hidL hrW;obtain⟨m0,m2⟩:=HcO.out _ x3V;obtain⟨m1,-⟩:=HcT.out _ x3V;obtain⟨g0,-,-⟩:=hgb.out _ x3V;have hgl:=Nat.lt_of_lt_of_le hgw x3V.size;have q4:=x4V.c 0 rfl;have ql:=x4V.lt;have hkoi:(ko:Int)<s.cs.length:=by omega
  have hkti:(kt:Int)<s.cs.length:=by omega
  have e:=Hko.out;subst e;have e:=Hkt.out;subst e;clear gW hrW;have hS:(fun W'=>LL W' bb 0 (.slice PW bW.length pw)∧LL W' g 0 (.slice (some ⟨gL,oL,none⟩) s.cs.length cc)∧LL W' gL (oL+ko*2) (.slice PO bO.length po)∧LL W' gL (oL+kt*2) (.slice PT bT.length pt)) V.drew:=⟨q4,g0,m0,m1⟩;have hHS:=hidL (fun W (h:Below V.heap.size V W)=>show (fun W'=>LL W' bb 0 (.slice PW bW.length pw)∧LL W' g 0 (.slice (some ⟨gL,oL,none⟩) s.cs.length cc)∧LL W' gL (oL+ko*2) (.slice PO bO.length po)∧LL W' gL (oL+kt*2) (.slice PT bT.length pt)) W from⟨(h.cell (p:=⟨bb,0,none⟩) ql).trans q4,(h.cell (p:=⟨g,0,none⟩) hgl).trans g0,(h.cell (p:=⟨gL,_,none⟩) m2).trans m0,(h.cell (p:=⟨gL,_,none⟩) m2).trans m1⟩);have hw:=au (Below.here V);clear q4 g0 m0 m1 m2 ql hgl;refine aJ (fun W'=>LL W' bb 0 (.slice PW bW.length pw)∧LL W' g 0 (.slice (some ⟨gL,oL,none⟩) s.cs.length cc)∧LL W' gL (oL+ko*2) (.slice PO bO.length po)∧LL W' gL (oL+kt*2) (.slice PT bT.length pt)) (fun i=>decide (i<23)) (by kernel_rfl) ?_;generalize V.drew=Vd at hS hw ⊢;apply tkP 0 hS;apply ppP 1;apply ppP 2;apply ppP 3;apply tkP 4 hS;apply ppP 5;apply ppP 6;apply ppP 7;apply tkP 8 hS;apply ppP 9;apply ppP 10;apply ppP 11;apply tkP 12 hS;apply ppP 13;apply ppP 14;apply ppP 15;apply tkP 16 hS
  try simp only[pu]
  obtain⟨r,hr⟩:=exE (fC bW bO bT);have HRr:=HR.out;rw[←hr] at HRr;have Hr:=hidL hr;have HC:=hidL (fun W (h:Below V.heap.size V W)=>mE S (.slice PW bW.length pw) (.slice PO bO.length po) (.slice PT bT.length pt) bW bO bT W ((RSl.fair ah.fair).below HrW.out (aa x3V h x3V.size)) ((RSl.fair ah.fair).below HrO.out (aa x3V h x3V.size)) ((RSl.fair ah.fair).below HrT.out (aa x3V h x3V.size)) (HG.out W ((aa x3V h x3V.size).mono hb)).1 HgW.out HgO.out HgT.out);rw[←hr] at HC;have HR3:=hidL HRr;clear hr HRr;refine iI (i:=17) (j:=22) rfl rfl (by kernel_rfl) (fun K hK=>?_) (fun K hK=>?_)
  focus
   go_simp;refine(HC.out _ hw).mono ?_;rintro e w5 ⟨vo,vl,rfl,hro,hrl,hb5⟩;have hro:RSl 5 96 ah (New Vd) w5 [vo] r.1:=hro;obtain⟨AO,kO,rfl,-,-⟩:=hro.form;obtain⟨AL,kL,rfl,-,-⟩:=hrl.form;have hw5:=aa hw hb5 hw.size;replace hS:=hHS.out _ hw5;have hvs:=hw.size;have hro2:=(RSl.fair ah.fair).keep ((RSl.fair ah.fair).mono hro (T:=fun y=>V.heap.size≤y∧y<w5.heap.size) (fun y h k=>⟨Nat.le_trans hvs h,k⟩)) (az.alloc _ w5 (.cells [Z0].toArray 38));have hrl2:=(RSl.fair aU.fair).keep ((RSl.fair aU.fair).mono hrl (T:=fun y=>V.heap.size≤y∧y<w5.heap.size) (fun y h k=>⟨Nat.le_trans hvs h,k⟩)) (az.alloc _ w5 (.cells [Z0].toArray 38));refine hK.out _ _ (fun _ _=>hS) ?_
   try simp only[pu]
   apply ppP 18;apply ppP 19;apply ppP 20;apply ppP 21
   try simp only[pu]
   refine ang 22 (fun K hK=>?_);go_simp;have hX:=Box.new w5 38 [Z0];have hw6:=hw5.alloc hw5.size (.cells [Z0].toArray 38);replace hS:=hHS.out _ hw6;refine hK.out _ _ (fun _ _=>hS) ?_
   try simp only[pu]
   have hXl:V.heap.size≤w5.heap.size:=hw5.size;have hnX:¬ (V.heap.size≤w5.heap.size∧w5.heap.size<w5.heap.size):=fun h=>by omega
   replace hro2:=(RSl.fair ah.fair).mono hro2 (T:=fun y=>V.heap.size≤y∧y≠w5.heap.size) (fun y h _=>⟨h.1,fun e=>by have h2:y<w5.heap.size:=h.2;omega⟩);replace hrl2:=(RSl.fair aU.fair).mono hrl2 (T:=fun y=>V.heap.size≤y∧y≠w5.heap.size) (fun y h _=>⟨h.1,fun e=>by have h2:y<w5.heap.size:=h.2;omega⟩);clear hnX hw5 hw hro hrl hb5 hvs;generalize w5.heap.size=X at hX hXl hro2 hrl2 ⊢;generalize World.alloc w5 _=w6 at hX hw6 hS hro2 hrl2 ⊢
  rotate_left 1
  focus
   go_simp;have hX0:=Box.new Vd 38 [Z0];have hw5:=hw.alloc hw.size (.cells [Z0].toArray 38);replace hS:=hHS.out _ hw5;refine hK.out _ _ (fun _ _=>hS) ?_
   try simp only[pu]
   have hXl:V.heap.size≤Vd.heap.size:=hw.size;clear hw;generalize Vd.heap.size=X at hX0 hXl ⊢;generalize World.alloc Vd _=w5 at hX0 hw5 hS ⊢;refine ang 17 (fun K hK=>?_);go_simp;refine(HC.out _ hw5).mono ?_;rintro e w6 ⟨vo,vl,rfl,hro,hrl,hb6⟩;have hro:RSl 5 96 ah (New w5) w6 [vo] r.1:=hro;obtain⟨AO,kO,rfl,-,-⟩:=hro.form;obtain⟨AL,kL,rfl,-,-⟩:=hrl.form;have hX5:=hX0.lt;have hX:=hX0.below hb6 hX0.lt;have hw6:=aa hw5 hb6 hw5.size;have hvs:=hw5.size;replace hS:=hHS.out _ hw6;have hro2:=(RSl.fair ah.fair).mono hro (T:=fun y=>V.heap.size≤y∧y≠X) (fun y h k=>by have h:w5.heap.size≤y:=h;exact⟨by omega,by omega⟩);have hrl2:=(RSl.fair aU.fair).mono hrl (T:=fun y=>V.heap.size≤y∧y≠X) (fun y h k=>by have h:w5.heap.size≤y:=h;exact⟨by omega,by omega⟩);clear hro hrl hb6 hX0 hw5 hvs hX5;refine hK.out _ _ (fun _ _=>hS) ?_
   try simp only[pu]
   apply ppP 18;apply ppP 19;apply ppP 20;apply ppP 21
   try simp only[pu]
  all_goals
   have q0:=hX.c 0 rfl;have qf:=hX.frozen 0;refine ang 23 (fun K hK=>?_);go_simp;refine hK.out _ _ nay ?_
   try simp only[pu]
   apply ppP 24;apply ppP 25
   try simp only[pu]
   refine anf ?_ _;have hxl:=x2V.lt;have hX7:=hX.gB 0 (.slice AO r.1.length kO);have h7:=(aa x3V hw6 x3V.size).setCell (p:=⟨X,0,none⟩) (show w.heap.size≤X by omega) (.slice AO r.1.length kO);have x27:=(x2V.below hw6 x2V.lt).far (p:=⟨X,0,none⟩) (show w.heap.size≠X by omega) (.slice AO r.1.length kO);have Hro:=hidL ((RSl.fair ah.fair).keep hro2 (az.setCell w6 (a:=⟨X,0,none⟩) (.slice AO r.1.length kO) (fun h=>h.2 rfl)));have Hrl:=hidL ((RSl.fair aU.fair).keep hrl2 (az.setCell w6 (a:=⟨X,0,none⟩) (.slice AO r.1.length kO) (fun h=>h.2 rfl)));have hV7:V.heap.size≤(w6.setCell ⟨X,0,none⟩ (.slice AO r.1.length kO)).heap.size:=by simpa using hw6.size
   simp only[List.set_cons_zero] at hX7;clear hS hHS q0 qf hX hw6 x3V x4V hro2 hrl2 HC;generalize World.setCell w6 _ _=W7 at hX7 h7 x27 Hro Hrl hV7 ⊢
   by_cases hE:r.2.2=0
   ·--[GO
    have hd4:(r.2.2 != 0)=false:=by simpa using hE
    have hd5:(r.2.2==0)=true:=by simpa using hE
    have hr:R=wP s k r.1 [(ko:Int),(kt:Int)]:=by rw[HR3.out,if_neg (by simpa using hE)]
    have hx3:=h7.alloc h7.size (.cells [O ko,O kt].toArray 3);have hXn:=Box.new W7 3 [O ko,O kt];have x2A:=x27.alloc (.cells [O ko,O kt].toArray 3);have hVl:(W7.alloc (.cells [O ko,O kt].toArray 3)).heap.size=W7.heap.size+1:=by simp
    have hadd:=Xd (fun y=>V.heap.size≤y∧y<W7.heap.size+1) _ (.slice (some ⟨W7.heap.size,0,none⟩) 2 2) k r.1 [(ko:Int),(kt:Int)] (H.out.below hx3) ((RSl.fair ah.fair).mono ((RSl.fair ah.fair).keep Hro.out (az.alloc _ _ _)) (fun y h l=>⟨h.1,by rw[hVl] at l;exact l⟩)) (ajW hXn ⟨hV7,Nat.lt_succ_self _⟩) (fun h=>by have h:V.heap.size≤g:=h.1;omega)
     (fun y e h=>by obtain rfl:=Option.some.inj e;have h1:V.heap.size≤gr:=h.1;omega) (fun y h=>by have h2:y<W7.heap.size+1:=h.2;omega) hl HK.out.most.1
     (by have:=HK.out.most.2.1;omega) ⟨Hwr.out.2.2.1,Hwr.out.2.2.2.1⟩
     (fun c h=>iA (HK.out.books c h)) (iA (by rw[Hr.out];exact Td (by rw[←Hr.out];exact hE))) (HG.out _ (hx3.mono hb)).1
    rw[←hr] at hadd;have HA:=hidL hadd;have q4:=hX7.c 0 rfl;have ql:=hX7.lt;clear hadd HR HR3 hXn hr hX7 x27 h7 Hro Hrl hE;go_wp2_with fail;refine HA.out.mono ?_;intro e w8 hp;obtain⟨A8,k8,rfl⟩:=hp.form;obtain⟨k1,k2,k3⟩:=hp.stored (S:=S) (Touch.below hx3) (fun y h=>h.imp id fun h=>by have h:V.heap.size≤y:=h.1;omega) (.inl rfl) (Nat.le_refl _) x2A rfl (fun h=>by
     rcases h with h | h
     ·have:=hSw _ h;omega
     ·have h:V.heap.size≤w.heap.size:=h.1;omega) (fun e=>by have:=Option.some.inj e;omega) (by omega)
    obtain⟨r0,r1,r2,r3,g0,g1,g2,g3,lr⟩:=k1.rr4;clear q4 ql;go_wp2_with fail;exact bodyPost_ret (merge_results k2 rfl) rfl k3
   ·--[CLASH
    have hd4:(r.2.2 != 0)=true:=by simpa using hE
    have hd5:(r.2.2==0)=false:=by simpa using hE
    have hr:R=(⟨r.2.2,0,⟨#[]⟩,r.2.1⟩,s):=by rw[HR3.out,if_pos hE]
    subst hr;obtain⟨r0,r1,r2,r3,g0,g1,g2,g3,lr⟩:=x27.rr4;go_wp2_with fail;obtain⟨zs,hzs⟩:=exE ([O r.2.2,O 0,E0,.slice AL r.2.1.length kL]:List Value);have hz:=x27.setCells zs (by rw[hzs];rfl);have hB:=below_setCells (B:=w.heap.size) (g:=w.heap.size) (Nat.le_refl _) zs 0 _ h7;have hrep:jd (New w) (setCells W7 w.heap.size 0 zs) zs ⟨r.2.2,0,⟨#[]⟩,r.2.1⟩:=⟨_,hzs,(RSl.fair aU.fair).mono ((RSl.fair aU.fair).keep Hrl.out (az.setCells (fun h=>by have h:V.heap.size≤w.heap.size:=h.1;omega) zs 0 W7)) (fun y h _=>by have h:V.heap.size≤y:=h.1;show w.heap.size≤y;omega)⟩;have hp:=eD.same (T:=S) H.out hB hrep fun _ h=>h
    rw[hzs] at hz hp;change bodyPost _ _ _ _ _ (setCells W7 w.heap.size 0 [O r.2.2,O 0,E0,.slice AL r.2.1.length kL]);exact bodyPost_ret (merge_results hz rfl) rfl hp
end Go.Proofs.YtknnhpkjgnkcdaaGreatDoor
