/- The walk of the statement TopKeeps: behind each act every name keeps its policy. -/
import Derived.Test.YthhldfpmhmocfaaGreatDoorTops
set_option linter.all false
set_option maxRecDepth 100000
set_option maxHeartbeats 8000000
namespace Go.Proofs.YthhldfpmhmocfaaGreatDoor
open Go.Proofs.Tryz
open Go.RowKit
theorem ady (gb base:Nat)(w0:World)(hgb:w0.heap.size≤gb)(hG:qW w0.heap.size w0):aim 15 [.pointer (some ⟨gb,0,none⟩)] base w0 (YE gb):=by
 intro s a g W W1 row row' S S' cs hok hkp hac hfit hbW hI hN hT hb1 hN1 hS' hr' hrep;obtain⟨hok1,hkp1⟩:=Uw (a:=a) hok hkp;have hW:=hI.touch iG.fair hT hS' hr';obtain⟨r,hr⟩:=exE (doF s a);rw[←hr] at hok1 hkp1 hN1 hrep ⊢;obtain⟨vf,rfl,hrf⟩:=hrep;obtain⟨AF,kF,rfl,-,-⟩:=hrf.form;obtain⟨⟨rc,rn,rt,rf⟩,s2⟩:=r;obtain⟨ak,an,am,nm,ot,tx⟩:=a;dsimp only at hok1 hkp1 hN1 ⊢;obtain⟨x1,x2,x3⟩:=bY W1 [.int .i64 ak,.int .i64 an,.int .i64 am,.string nm,.string ot,.string tx] [.int .i64 rc,.int .i64 rn,.string rt,.slice AF rf.length kF] 28 32;have hN2:=hN1.below x3;have hW2:=hW.below iG.fair x3;have hw0:=hb1.size;have hrl:s.rs.length≤6:=hok.most.2.1;have hr2:s2.rs.length≤6:=hok1.most.2.1;have hc2:s2.cs.length≤1000:=Nat.le_trans hok1.most.1 (by decide);have Hok:=hidL hok1;have Hkp:=hidL hkp1;have HGW:=hidL (hG.below hb1);dsimp only[fQ];clear hok hkp hac hfit hbW hI hN hT hN1 hS' hr' hrf hr hW hok1 hkp1 hb1 hG;go_enter func15,ntmps15;go_upto_region 1 with fail;have hx:=x3.size;clear x1 x2;generalize World.alloc (World.alloc W1 _) _=W2 at x3 hN2 hW2 hx ⊢;have HN:=hidL hN2;have HW:=hidL hW2;clear hN2 hW2;go_wp2_with fail;refine(yM HN.out hc2).mono ?_;rintro e w3 ⟨v3,rfl,hv3,hb3⟩;obtain⟨A3,c3,rfl,-,-⟩:=hv3.form;have HN3:=hidL (HN.out.below hb3);have hx3:=Nat.le_trans hx hb3.size;go_wp2_with fail;refine(Au HN3.out (by omega)).mono ?_;rintro e w4 ⟨v4,rfl,hv4,hb4⟩;obtain⟨A4,c4,rfl,-,-⟩:=hv4.form;have H3:=hidL ((RSl.fair dw.fair).below hv3 hb4);have H4:=hidL hv4;have hb24:=aa hb3 hb4 hb3.size;have HW4:=hidL (HW.out.below iG.fair hb24);have HW3:=hidL (HW.out.below iG.fair hb3);have HN4:=hidL (HN3.out.below hb4);have HB4:=hidL (aa x3 hb24 hx);have hs34:=hb4.size;clear hv3 hv4 hb3 hb4 hb24 x3 HN HW;go_wp2_with fail;go_loopw [21] (fun i wr=>∃ k:Nat,i=.int .i64 k∧k≤s2.rs.length∧Below w4.heap.size w4 wr) (fun i _=>s2.rs.length-(intOf i).toNat)
 case atStart=>exact⟨0,rfl,Nat.zero_le _,Below.refl _ _⟩
 case round =>
  obtain⟨k,rfl,hk,hb⟩:=hrel
  by_cases hlt:k<s2.rs.length
  ·obtain⟨gr,o,rfl,hS,hgr⟩:=H4.out.base (by omega);have hc:=(H4.out.flat (enc:=aN) hlt).keep (az.of_below hb) hS;have hym:=List.getElem_mem hlt;have hyo:=Hok.out.refs _ hym;have hyk:=Hkp.out _ hym;obtain⟨y,hy⟩:=exE (s2.rs[k]);rw[←hy] at hc hyo hyk;obtain⟨yn,yc,yp⟩:=y;dsimp only at hyo hyk;have q0:wr.cell? ⟨gr,o+k*3,none⟩=some (.string yn):=hc.at_ 0 rfl;have q1:wr.cell? ⟨gr,o+k*3+1,none⟩=some (.int .i64 yc):=hc.at_ 1 rfl;have q2:wr.cell? ⟨gr,o+k*3+2,none⟩=some (.int .i64 yp):=hc.at_ 2 rfl;have hgl2:=Nat.lt_of_lt_of_le hgr hb.size;have hki:(k:Int)<s2.rs.length:=by omega
   have Hyo:=hidL hyo;have Hyk:=hidL hyk;have z:=Box.new wr 37 [.string yn,.int .i64 yc,.int .i64 yp];have hbx:=(Below.here wr).alloc (Nat.le_refl _) (.cells [.string yn,.int .i64 yc,.int .i64 yp].toArray 37);have hb9:=aa hb hbx hb.size;clear hc hy hym hS hbx hyo hyk hb;go_upto_region 6 with fail;generalize wr.heap.size=Z at z ⊢;obtain⟨W5,hW5⟩:=exE (wr.alloc (.cells [.string yn,.int .i64 yc,.int .i64 yp].toArray 37));have e5:World.alloc wr (.cells #[.string yn,.int .i64 yc,.int .i64 yp] 37)=W5:=hW5.symm;rw[←hW5] at z hb9;rw[e5];clear hW5 e5 q0 q1 q2 hgl2 wr;obtain⟨A0,c0,T,hT0,hc0,hgl,-⟩:=(HW4.out.below iG.fair hb9).open;have HX:=hidL hT0;clear hT0;go_wp2_with fail;go_loopw [27,12] (fun j b wi=>∃ (m:Nat) (t:Bool),j=.int .i64 m∧b=.bool t∧m≤s.rs.length∧Below W5.heap.size W5 wi) (fun j _ _=>s.rs.length-(intOf j).toNat)
   case atStart=>exact⟨0,false,rfl,rfl,Nat.zero_le _,Below.refl _ _⟩
   case round =>
    obtain⟨m,t,rfl,rfl,hm,hbi⟩:=hrel;clear hc0 hgl;have z0:=(z.below hbi z.lt).cell 0;have z1:=(z.below hbi z.lt).cell 1;have z2:=(z.below hbi z.lt).cell 2;have zl:=(z.below hbi z.lt).lt;simp only[List.getElem?_cons_zero,List.getElem?_cons_succ] at z0 z1 z2
    by_cases hmt:m<s.rs.length
    ·obtain⟨gx,ox,rfl,hS,hgx⟩:=HX.out.base (by omega);have hc:=(HX.out.flat (enc:=aN) hmt).keep (az.of_below hbi) hS;obtain⟨x,hx⟩:=exE (s.rs[m]);rw[←hx] at hc;obtain⟨xn,xc,xp⟩:=x;have p0:wr.cell? ⟨gx,ox+m*3,none⟩=some (.string xn):=hc.at_ 0 rfl;have p1:wr.cell? ⟨gx,ox+m*3+1,none⟩=some (.int .i64 xc):=hc.at_ 1 rfl;have p2:wr.cell? ⟨gx,ox+m*3+2,none⟩=some (.int .i64 xp):=hc.at_ 2 rfl;have hgl3:=Nat.lt_of_lt_of_le hgx hbi.size;have hmi:(m:Int)<s.rs.length:=by omega
     have hz:=Box.new wr 37 [.string xn,.int .i64 xc,.int .i64 xp];have hbx:=(Below.here wr).alloc (Nat.le_refl _) (.cells [.string xn,.int .i64 xc,.int .i64 xp].toArray 37);have hbi2:=aa hbi hbx hbi.size;have zz:=(z.below hbi z.lt).below hbx (z.below hbi z.lt).lt;clear hc hx hS hbx z0 z1 z2 zl hbi;go_upto_region 9 with fail;generalize wr.heap.size=Y at hz ⊢;generalize World.alloc wr _=W6 at hz hbi2 zz ⊢;have z0:=zz.cell 0;have z1:=zz.cell 1;have z2:=zz.cell 2;have zl:=zz.lt;have y0:=hz.cell 0;have y1:=hz.cell 1;have y2:=hz.cell 2;have yl:=hz.lt;simp only[List.getElem?_cons_zero,List.getElem?_cons_succ] at z0 z1 z2 y0 y1 y2;clear zz hz p0 p1 p2 hgl3;cases t with
     | true =>
      go_wp2_with fail;go_roundw
      case rel=>exact⟨m+1,true,by go_num,rfl,hmt,hbi2⟩
      case measure=>simp[intOf];omega
     | false =>
      go_wp2_with fail
      all_goals
       go_roundw
       case rel=>exact⟨m+1,_,by go_num,rfl,hmt,hbi2⟩
       case measure=>simp[intOf];omega
    ·have hmi:¬ (m:Int)<s.rs.length:=by omega
     have d1:decide (yc<0)=false:=by have:=Hyo.out.1;simp;omega
     have d2:decide (yc≥(s2.cs.length:Int))=false:=by have:=Hyo.out.2.1;simp;omega
     have hbo:=aa hb9 hbi hb9.size;cases t with
     | true =>
      go_wp2_with fail;go_roundw
      case rel=>exact⟨k+1,by go_num,hlt,hbo⟩
      case measure=>simp[intOf];omega
     | false =>
      have hbr:=Iz _ _ s2.cs yc yp wr ((RSl.fair dw.fair).below H3.out hbo) hc2 ⟨Hyo.out.2.2.1,Hyo.out.2.2.2.1⟩ (fun c h=>iA (Hok.out.books c h)) (HGW.out wr ((aa HB4.out hbo (Nat.le_trans hx3 hs34)).mono hw0)).1;rw[Hyk.out] at hbr;have HB:=hidL hbr;clear hbr;go_wp2_with fail;refine HB.out.mono ?_;rintro e w7 ⟨vf,rfl,hrf,hb7⟩;obtain⟨A7,c7,hv,-,-⟩:=hrf.form;change vf=.slice A7 0 c7 at hv;subst hv;have hb8:=aa hbo hb7 hbo.size;clear hrf hb7 hbo z0 z1 z2 zl hbi;go_wp2_with fail;go_roundw
      case rel=>exact⟨k+1,by go_num,hlt,hb8⟩
      case measure=>simp[intOf];omega
  ·have hki:¬ (k:Int)<s2.rs.length:=by omega
   have hWr:=HW4.out.below iG.fair hb;obtain⟨A6,c6,T6,-,m0,ml,mf⟩:=hWr.open;have Hf:Hid (Below w0.heap.size W1 (wr.setCell ⟨gb,0,none⟩ (.slice A4 s2.rs.length c4))∧bS S' row' base (wr.setCell ⟨gb,0,none⟩ (.slice A4 s2.rs.length c4)) g s2∧YE gb (wr.setCell ⟨gb,0,none⟩ (.slice A4 s2.rs.length c4)) s2 g row' S') :=
    ⟨((aa HB4.out hb (Nat.le_trans hx3 hs34)).mono hw0).setCell (p:=⟨gb,0,none⟩) hgb _,(HN4.out.below hb).was hWr _,hWr.store iG.fair ((RSl.fair iG.fair).below H4.out hb) HN3.out.gLt HN3.out.ajS HW3.out.open.choose_spec.choose_spec.choose_spec.2.2.1⟩
   clear hWr;go_wp2_with fail;go_ret;exact⟨rfl,Hf.out⟩
theorem Xv (S:Nat→Prop)(v:Value)(l:List mG)(w:World)(hl:RSl 6 72 Tn S w [v] l)(hfit:∀ a∈l,IM a)(hG:qW w.heap.size w):Calls prog 3 #[v] w (Ret w (.bool true)):=by
 obtain⟨A,cap,rfl,-,-⟩:=hl.form;obtain⟨x1,x2⟩:=kZ w [.slice none 0 0] 23;have hgb:=x1.lt;have HP:=hidL (SI (I:=YE w.heap.size) 15 [.pointer (some ⟨w.heap.size,0,none⟩)] (enters_of func15 (by kernel_rfl) rfl) A cap l S w _ hl hfit x2 hG (ady w.heap.size _ w (Nat.le_refl _) hG) (fun W g hg hb _=>Was.new (x1.below hb x1.lt) (by omega)));clear hl hfit hG;go_enter func3,ntmps3;go_wp2_with fail;refine HP.out.mono ?_;rintro e w2 ⟨g,row,S2,rfl,-,-,hb⟩;have hb2:=x2.trans hb;clear hb x1 HP hgb;go_wp2_with fail;go_ret;exact⟨rfl,hb2⟩
end Go.Proofs.YthhldfpmhmocfaaGreatDoor
