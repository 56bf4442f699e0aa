/- The walk of the statement TopNames: names are some, by order, and one act is of one name. -/
import Derived.Test.YthhldfpmhmocfaaGreatDoorTops
set_option linter.all false
set_option maxRecDepth 100000
set_option maxHeartbeats 8000000
namespace Go.Proofs.YthhldfpmhmocfaaGreatDoor
open Go.Proofs.Tryz
open Go.RowKit
theorem adF (gb base:Nat)(w0:World)(hgb:w0.heap.size≤gb)(hG:qW w0.heap.size w0):aim 19 [.pointer (some ⟨gb,0,none⟩)] base w0 (YE gb):=by
 intro s a g W W1 row row' S S' cs hok hkp hac hfit hbW hI hN hT hb1 hN1 hS' hr' hrep;have hst:=(OU (a:=a) hok hkp hac).one;have hok1:=(Uw (a:=a) hok hkp).1;have hW:=hI.touch iG.fair hT hS' hr';obtain⟨r,hr⟩:=exE (doF s a);rw[←hr] at hst hok1 hN1 hrep ⊢;obtain⟨vf,rfl,hrf⟩:=hrep;obtain⟨AF,kF,rfl,-,-⟩:=hrf.form;obtain⟨⟨rc,rn,rt,rf⟩,s2⟩:=r;obtain⟨ak,an,am,nm,ot,tx⟩:=a;dsimp only at hst hok1 hN1 ⊢;obtain⟨x1,x2,x3⟩:=bY W1 [.int .i64 ak,.int .i64 an,.int .i64 am,.string nm,.string ot,.string tx] [.int .i64 rc,.int .i64 rn,.string rt,.slice AF rf.length kF] 28 32;have hN2:=hN1.below x3;have hW2:=hW.below iG.fair x3;have hw0:=hb1.size;have hrl:s.rs.length≤6:=hok.most.2.1;have hr2:s2.rs.length≤6:=hok1.most.2.1;have Hok:=hidL hok1;have Hst:=hidL hst;have HGW:=hidL (hG.below hb1);dsimp only[fQ];clear hok hkp hac hfit hbW hI hN hT hN1 hS' hr' hrf hr hW hok1 hb1 hG hst;go_enter func19,ntmps19;go_upto_region 1 with fail;have hx:=x3.size;clear x2;generalize World.alloc (World.alloc W1 _) _=W2 at x1 x3 hN2 hW2 hx ⊢;have HN3:=hidL hN2;have HW3:=hidL hW2;clear hN2 hW2;go_wp2_with fail;refine(Au HN3.out (by omega)).mono ?_;rintro e w4 ⟨v4,rfl,hv4,hb4⟩;obtain⟨A4,c4,rfl,-,-⟩:=hv4.form;have H4:=hidL hv4;have HW4:=hidL (HW3.out.below iG.fair hb4);have HN4:=hidL (HN3.out.below hb4);have HB4:=hidL (aa x3 hb4 hx);have hs34:=hb4.size;have X4:=hidL (x1.below hb4 x1.lt);have d6:decide ((s2.rs.length:Int) > 6)=false:=by simp;omega
 clear hv4 hb4 x3 x1;go_wp2_with fail;clear d6;go_loopw [21] (fun i wr=>∃ k:Nat,i=.int .i64 k∧k≤s2.rs.length∧Below w4.heap.size w4 wr) (fun i _=>s2.rs.length-(intOf i).toNat)
 case atStart=>exact⟨0,rfl,Nat.zero_le _,Below.refl _ _⟩
 case round =>
  obtain⟨k,rfl,hk,hb⟩:=hrel
  by_cases hlt:k<s2.rs.length
  ·obtain⟨gr,o,rfl,hS,hgr⟩:=H4.out.base (by omega);have hc:=(H4.out.flat (enc:=aN) hlt).keep (az.of_below hb) hS;have hym:=List.getElem_mem hlt;have hyo:=Hok.out.refs _ hym;have hys:=Hst.out _ hym;have hyp:∀ j,k=j+1→∃ pn:ByteArray,ltS pn s2.rs[k].name∧(j:Int)<s2.rs.length∧wr.cell? ⟨gr,o+j*3,none⟩=some (.string pn):=fun j e=>by
    subst e;have hp:=List.pairwise_iff_getElem.1 Hok.out.sorted j (j+1) (by omega) hlt (by omega);have hcj:=(H4.out.flat (enc:=aN) (show j<s2.rs.length by omega)).keep (az.of_below hb) hS;exact⟨_,hp,by omega,hcj.at_ 0 rfl⟩
   obtain⟨y,hy⟩:=exE (s2.rs[k]);rw[←hy] at hc hyo hys hyp;obtain⟨yn,yc,yp⟩:=y;dsimp only at hyo hys hyp;have q0:wr.cell? ⟨gr,o+k*3,none⟩=some (.string yn):=hc.at_ 0 rfl;have q1:wr.cell? ⟨gr,o+k*3+1,none⟩=some (.int .i64 yc):=hc.at_ 1 rfl;have q2:wr.cell? ⟨gr,o+k*3+2,none⟩=some (.int .i64 yp):=hc.at_ 2 rfl;have hgl2:=Nat.lt_of_lt_of_le hgr hb.size;have hki:(k:Int)<s2.rs.length:=by omega
   have Hyo:=hidL hyo;have Hys:=hidL hys;have Hyp:=hidL hyp;have z:=Box.new wr 37 [.string yn,.int .i64 yc,.int .i64 yp];have hbx:=(Below.here wr).alloc (Nat.le_refl _) (.cells [.string yn,.int .i64 yc,.int .i64 yp].toArray 37);have hb9:=aa hb hbx hb.size;clear hc hy hym hS hyo hys hyp;go_upto_region 7 with fail;have Hgl:=hidL hgl2;have Hbx:=hidL hbx;obtain⟨Z,hZ⟩:=exE wr.heap.size;obtain⟨W5,hW5⟩:=exE (wr.alloc (.cells [.string yn,.int .i64 yc,.int .i64 yp].toArray 37));have e5:World.alloc wr (.cells #[.string yn,.int .i64 yc,.int .i64 yp] 37)=W5:=hW5.symm;rw[←hW5,←hZ] at z;rw[←hW5] at hb9 Hbx;rw[e5,←hZ];clear hW5 e5 q0 q1 q2 hgl2 hbx hb hZ;have z0:=z.cell 0;have z2:=z.cell 2;have zl:=z.lt;simp only[List.getElem?_cons_zero,List.getElem?_cons_succ] at z0 z2;have hsz4:=Nat.le_trans hx hs34;have HNM:=hidL (fun V (h:Below W5.heap.size W5 V)=>Bh yn V (by have:=lW Hyo.out.2.2.2.2;omega) (HGW.out V ((aa (aa HB4.out hb9 hsz4) h (Nat.le_trans hsz4 hb9.size)).mono hw0)).1);rw[Hyo.out.2.2.2.2] at HNM;have d3:decide (yp<0)=false:=by have:=Hyo.out.2.2.1;simp;omega
   have d4:decide (yp > 3)=false:=by have:=Hyo.out.2.2.2.1;simp;omega
   have hw:=au (Below.here W5);cases k with
   | zero =>
    have hS:(fun W'=>World.cell? W' ⟨Z,0,none⟩=some (.string yn)∧World.cell? W' ⟨Z,2,none⟩=some (.int .i64 yp)) W5.drew:=⟨z0,z2⟩;clear z0 z2;refine aJ (fun W'=>World.cell? W' ⟨Z,0,none⟩=some (.string yn)∧World.cell? W' ⟨Z,2,none⟩=some (.int .i64 yp)) (fun _=>true) (by kernel_rfl) ?_;generalize hVd:W5.drew=Vd at hS hw ⊢;refine ppP 0 ?_;refine tkP 1 hS ?_
    try simp only[pu]
    refine ang 2 (fun K hK=>?_);go_simp;refine(HNM.out _ hw).mono ?_;rintro e w7 ⟨rfl,rfl⟩;refine hK.out _ _ (fun _ _=>hS) ?_;clear hK K
    try simp only[pu]
    refine ppP 3 ?_;refine ppP 4 ?_;refine ppP 5 ?_;refine ppP 6 ?_;refine ppP 7 ?_;refine skP 8 hS ?_;refine skP 9 hS ?_;refine skP 10 hS ?_;refine skP 11 hS ?_;refine skP 12 hS ?_;refine skP 13 hS ?_;refine skP 14 hS ?_;refine skP 15 hS ?_;refine skP 16 hS ?_;refine ppP 17 ?_;refine ppP 18 ?_;refine ppP 19 ?_;refine ppP 20 ?_;refine tkP 21 hS ?_;refine ppP 22 ?_;refine ppP 23 ?_;refine ppP 24 ?_;refine ppP 25 ?_;refine tkP 26 hS ?_;refine ppP 27 ?_;refine ppP 28 ?_
    try simp only[pu]
    refine anf ?_ _;clear hS;obtain⟨A0,c0,T,hT0,hc0,hgl,-⟩:=(HW4.out.below iG.fair (aa hb9 hw hb9.size)).open;have HX:=hidL hT0;replace z:=z.below hw z.lt;have hb8:=aa hb9 hw hb9.size;have X5:=hidL (X4.out.below hb8 X4.out.lt);clear hT0 zl hw hb9;go_wp2_with fail;go_loopw [57,11] (fun j b wi=>∃ (m:Nat) (t:Bool),j=.int .i64 m∧b=.bool t∧m≤s.rs.length∧Hid (t=false→∀ x∈s.rs.take m,x≠⟨yn,yc,yp⟩)∧Below w7.heap.size w7 wi) (fun j _ _=>s.rs.length-(intOf j).toNat)
    case atStart=>exact⟨0,false,rfl,rfl,Nat.zero_le _,(fun _ x h=>by cases h),Below.refl _ _⟩
    case round =>
     obtain⟨m,t,rfl,rfl,hm,hq,hbi⟩:=hrel;clear hc0 hgl
     by_cases hmt:m<s.rs.length
     ·obtain⟨gx,ox,rfl,hS,hgx⟩:=HX.out.base (by omega);have hc:=(HX.out.flat (enc:=aN) hmt).keep (az.of_below hbi) hS;have htk:s.rs.take (m+1)=s.rs.take m++[s.rs[m]]:=List.take_succ_eq_append_getElem hmt;obtain⟨x,hx⟩:=exE (s.rs[m]);rw[←hx] at hc htk;obtain⟨xn,xc,xp⟩:=x;have p0:wr.cell? ⟨gx,ox+m*3,none⟩=some (.string xn):=hc.at_ 0 rfl;have p1:wr.cell? ⟨gx,ox+m*3+1,none⟩=some (.int .i64 xc):=hc.at_ 1 rfl;have p2:wr.cell? ⟨gx,ox+m*3+2,none⟩=some (.int .i64 xp):=hc.at_ 2 rfl;have hgl3:=Nat.lt_of_lt_of_le hgx hbi.size;have hmi:(m:Int)<s.rs.length:=by omega
      have hz:=Box.new wr 37 [.string xn,.int .i64 xc,.int .i64 xp];have hbx:=(Below.here wr).alloc (Nat.le_refl _) (.cells [.string xn,.int .i64 xc,.int .i64 xp].toArray 37);have hbi2:=aa hbi hbx hbi.size;have zz:=(z.below hbi z.lt).below hbx (z.below hbi z.lt).lt;have Hne:Hid ((⟨xn,xc,xp⟩:gD)≠⟨yn,yc,yp⟩→t=false→false=false→∀ x∈s.rs.take (m+1),x≠⟨yn,yc,yp⟩):=fun hn ht _ x hx=>by
       rw[htk] at hx;rcases List.mem_append.1 hx with h | h
       ·exact hq.out ht x h
       ·obtain rfl:=List.mem_singleton.1 h;exact hn
      clear hc hx hS hbx hbi htk hq;go_upto_region 13 with fail;generalize wr.heap.size=Y at hz ⊢;generalize World.alloc wr _=W6 at hz hbi2 zz ⊢;have z0:=zz.cell 0;have z1:=zz.cell 1;have z2:=zz.cell 2;have zl:=zz.lt;have y0:=hz.cell 0;have y1:=hz.cell 1;have y2:=hz.cell 2;have yl:=hz.lt;simp only[List.getElem?_cons_zero,List.getElem?_cons_succ] at z0 z1 z2 y0 y1 y2;clear zz hz p0 p1 p2 hgl3;cases t with
      | true =>
       go_wp2_with fail;go_roundw
       case rel=>exact⟨m+1,true,by go_num,rfl,hmt,(fun e=>by cases e),hbi2⟩
       case measure=>simp[intOf];omega
      | false =>
       go_wp2_with fail
       all_goals
        go_roundw
        case rel =>
         first
          | exact⟨m+1,true,by go_num,rfl,hmt,(fun e=>by cases e),hbi2⟩
          | exact⟨m+1,false,by go_num,rfl,hmt,Hne.out (fun e=>by cases e;exact absurd rfl (by assumption)) rfl,hbi2⟩
        case measure=>simp[intOf];omega
     ·have hmi:¬ (m:Int)<s.rs.length:=by omega
      have z0:=(z.below hbi z.lt).cell 0;have zl:=(z.below hbi z.lt).lt;have a3:=(X5.out.below hbi X5.out.lt).cell 3;have al:=(X5.out.below hbi X5.out.lt).lt;simp only[List.getElem?_cons_zero,List.getElem?_cons_succ] at z0 a3;have hbo:=aa hb8 hbi hb8.size;obtain rfl:m=s.rs.length:=by omega
      have hnn:t=false→yn=nm:=fun e=>by
       have:=hq.out e;rw[List.take_length] at this;rcases Hys.out with h | h
       ·exact absurd rfl (this _ h)
       ·exact h
      cases t with
      | true =>
       go_wp2_with fail;go_roundw
       case rel=>exact⟨0+1,by go_num,hlt,hbo⟩
       case measure=>simp[intOf];omega
      | false =>
       have e1:(yn.toList==nm.toList)=true:=by rw[ba_eq];simpa using hnn rfl
       have e2:(yn.toList != nm.toList)=false:=by rw[bne,e1];rfl
       clear hnn hq;go_wp2_with fail;go_roundw
       case rel=>exact⟨0+1,by go_num,hlt,hbo⟩
       case measure=>simp[intOf];omega
   | succ j =>
    obtain⟨pn,hpn,hji,hpc⟩:=Hyp.out j rfl;have hpc5:=(Hbx.out.cell (p:=⟨gr,o+j*3,none⟩) Hgl.out).trans hpc;have e4:Op.bytesLess pn.toList yn.toList=true:=hpn;have e8:IntKind.i64.wrap (j:Int)=(j:Int):=IntWalk.i64_in _ (by omega);have hS:(fun W'=>World.cell? W' ⟨Z,0,none⟩=some (.string yn)∧World.cell? W' ⟨Z,2,none⟩=some (.int .i64 yp)∧World.cell? W' ⟨gr,o+j*3,none⟩=some (.string pn)) W5.drew:=⟨z0,z2,hpc5⟩;clear z0 z2 hpc hpc5 hpn;refine aJ (fun W'=>World.cell? W' ⟨Z,0,none⟩=some (.string yn)∧World.cell? W' ⟨Z,2,none⟩=some (.int .i64 yp)∧World.cell? W' ⟨gr,o+j*3,none⟩=some (.string pn)) (fun _=>true) (by kernel_rfl) ?_;generalize hVd:W5.drew=Vd at hS hw ⊢;refine ppP 0 ?_;refine tkP 1 hS ?_
    try simp only[pu]
    refine ang 2 (fun K hK=>?_);go_simp;refine(HNM.out _ hw).mono ?_;rintro e w7 ⟨rfl,rfl⟩;refine hK.out _ _ (fun _ _=>hS) ?_;clear hK K
    try simp only[pu]
    refine ppP 3 ?_;refine ppP 4 ?_;refine ppP 5 ?_;refine ppP 6 ?_;refine ppP 7 ?_;refine ppP 8 ?_;refine ppP 9 ?_;refine ppP 10 ?_;refine ppP 11 ?_;refine ppP 12 ?_;refine tkP 13 hS ?_;refine ppP 14 ?_;refine tkP 15 hS ?_;refine ppP 16 ?_;refine ppP 17 ?_;refine ppP 18 ?_;refine ppP 19 ?_;refine ppP 20 ?_;refine tkP 21 hS ?_;refine ppP 22 ?_;refine ppP 23 ?_;refine ppP 24 ?_;refine ppP 25 ?_;refine tkP 26 hS ?_;refine ppP 27 ?_;refine ppP 28 ?_
    try simp only[pu]
    refine anf ?_ _;clear hS;obtain⟨A0,c0,T,hT0,hc0,hgl,-⟩:=(HW4.out.below iG.fair (aa hb9 hw hb9.size)).open;have HX:=hidL hT0;replace z:=z.below hw z.lt;have hb8:=aa hb9 hw hb9.size;have X5:=hidL (X4.out.below hb8 X4.out.lt);clear hT0 zl hw hb9;go_wp2_with fail;go_loopw [57,11] (fun j b wi=>∃ (m:Nat) (t:Bool),j=.int .i64 m∧b=.bool t∧m≤s.rs.length∧Hid (t=false→∀ x∈s.rs.take m,x≠⟨yn,yc,yp⟩)∧Below w7.heap.size w7 wi) (fun j _ _=>s.rs.length-(intOf j).toNat)
    case atStart=>exact⟨0,false,rfl,rfl,Nat.zero_le _,(fun _ x h=>by cases h),Below.refl _ _⟩
    case round =>
     obtain⟨m,t,rfl,rfl,hm,hq,hbi⟩:=hrel;clear hc0 hgl
     by_cases hmt:m<s.rs.length
     ·obtain⟨gx,ox,rfl,hS,hgx⟩:=HX.out.base (by omega);have hc:=(HX.out.flat (enc:=aN) hmt).keep (az.of_below hbi) hS;have htk:s.rs.take (m+1)=s.rs.take m++[s.rs[m]]:=List.take_succ_eq_append_getElem hmt;obtain⟨x,hx⟩:=exE (s.rs[m]);rw[←hx] at hc htk;obtain⟨xn,xc,xp⟩:=x;have p0:wr.cell? ⟨gx,ox+m*3,none⟩=some (.string xn):=hc.at_ 0 rfl;have p1:wr.cell? ⟨gx,ox+m*3+1,none⟩=some (.int .i64 xc):=hc.at_ 1 rfl;have p2:wr.cell? ⟨gx,ox+m*3+2,none⟩=some (.int .i64 xp):=hc.at_ 2 rfl;have hgl3:=Nat.lt_of_lt_of_le hgx hbi.size;have hmi:(m:Int)<s.rs.length:=by omega
      have hz:=Box.new wr 37 [.string xn,.int .i64 xc,.int .i64 xp];have hbx:=(Below.here wr).alloc (Nat.le_refl _) (.cells [.string xn,.int .i64 xc,.int .i64 xp].toArray 37);have hbi2:=aa hbi hbx hbi.size;have zz:=(z.below hbi z.lt).below hbx (z.below hbi z.lt).lt;have Hne:Hid ((⟨xn,xc,xp⟩:gD)≠⟨yn,yc,yp⟩→t=false→false=false→∀ x∈s.rs.take (m+1),x≠⟨yn,yc,yp⟩):=fun hn ht _ x hx=>by
       rw[htk] at hx;rcases List.mem_append.1 hx with h | h
       ·exact hq.out ht x h
       ·obtain rfl:=List.mem_singleton.1 h;exact hn
      clear hc hx hS hbx hbi htk hq;go_upto_region 13 with fail;generalize wr.heap.size=Y at hz ⊢;generalize World.alloc wr _=W6 at hz hbi2 zz ⊢;have z0:=zz.cell 0;have z1:=zz.cell 1;have z2:=zz.cell 2;have zl:=zz.lt;have y0:=hz.cell 0;have y1:=hz.cell 1;have y2:=hz.cell 2;have yl:=hz.lt;simp only[List.getElem?_cons_zero,List.getElem?_cons_succ] at z0 z1 z2 y0 y1 y2;clear zz hz p0 p1 p2 hgl3;cases t with
      | true =>
       go_wp2_with fail;go_roundw
       case rel=>exact⟨m+1,true,by go_num,rfl,hmt,(fun e=>by cases e),hbi2⟩
       case measure=>simp[intOf];omega
      | false =>
       go_wp2_with fail
       all_goals
        go_roundw
        case rel =>
         first
          | exact⟨m+1,true,by go_num,rfl,hmt,(fun e=>by cases e),hbi2⟩
          | exact⟨m+1,false,by go_num,rfl,hmt,Hne.out (fun e=>by cases e;exact absurd rfl (by assumption)) rfl,hbi2⟩
        case measure=>simp[intOf];omega
     ·have hmi:¬ (m:Int)<s.rs.length:=by omega
      have z0:=(z.below hbi z.lt).cell 0;have zl:=(z.below hbi z.lt).lt;have a3:=(X5.out.below hbi X5.out.lt).cell 3;have al:=(X5.out.below hbi X5.out.lt).lt;simp only[List.getElem?_cons_zero,List.getElem?_cons_succ] at z0 a3;have hbo:=aa hb8 hbi hb8.size;obtain rfl:m=s.rs.length:=by omega
      have hnn:t=false→yn=nm:=fun e=>by
       have:=hq.out e;rw[List.take_length] at this;rcases Hys.out with h | h
       ·exact absurd rfl (this _ h)
       ·exact h
      cases t with
      | true =>
       go_wp2_with fail;go_roundw
       case rel=>exact⟨j+1+1,by go_num,hlt,hbo⟩
       case measure=>simp[intOf];omega
      | false =>
       have e1:(yn.toList==nm.toList)=true:=by rw[ba_eq];simpa using hnn rfl
       have e2:(yn.toList != nm.toList)=false:=by rw[bne,e1];rfl
       clear hnn hq;go_wp2_with fail;go_roundw
       case rel=>exact⟨j+1+1,by go_num,hlt,hbo⟩
       case measure=>simp[intOf];omega
  ·have hki:¬ (k:Int)<s2.rs.length:=by omega
   have hWr:=HW4.out.below iG.fair hb;obtain⟨A6,c6,T6,-,m0,ml,mf⟩:=hWr.open;have Hf:Hid (Below w0.heap.size W1 (wr.setCell ⟨gb,0,none⟩ (.slice A4 s2.rs.length c4))∧bS S' row' base (wr.setCell ⟨gb,0,none⟩ (.slice A4 s2.rs.length c4)) g s2∧YE gb (wr.setCell ⟨gb,0,none⟩ (.slice A4 s2.rs.length c4)) s2 g row' S') :=
    ⟨((aa HB4.out hb (Nat.le_trans hx hs34)).mono hw0).setCell (p:=⟨gb,0,none⟩) hgb _,(HN4.out.below hb).was hWr _,hWr.store iG.fair ((RSl.fair iG.fair).below H4.out hb) HN3.out.gLt HN3.out.ajS HW3.out.open.choose_spec.choose_spec.choose_spec.2.2.1⟩
   clear hWr;go_wp2_with fail;go_ret;exact⟨rfl,Hf.out⟩
theorem WG (S:Nat→Prop)(v:Value)(l:List mG)(w:World)(hl:RSl 6 72 Tn S w [v] l)(hfit:∀ a∈l,IM a)(hG:qW w.heap.size w):Calls prog 4 #[v] w (Ret w (.bool true)):=by
 obtain⟨A,cap,rfl,-,-⟩:=hl.form;obtain⟨x1,x2⟩:=kZ w [.slice none 0 0] 23;have hgb:=x1.lt;have HP:=hidL (SI (I:=YE w.heap.size) 19 [.pointer (some ⟨w.heap.size,0,none⟩)] (enters_of func19 (by kernel_rfl) rfl) A cap l S w _ hl hfit x2 hG (adF w.heap.size _ w (Nat.le_refl _) hG) (fun W g hg hb _=>Was.new (x1.below hb x1.lt) (by omega)));clear hl hfit hG;go_enter func4,ntmps4;go_wp2_with fail;refine HP.out.mono ?_;rintro e w2 ⟨g,row,S2,rfl,-,-,hb⟩;have hb2:=x2.trans hb;clear hb x1 HP hgb;go_wp2_with fail;go_ret;exact⟨rfl,hb2⟩
end Go.Proofs.YthhldfpmhmocfaaGreatDoor
