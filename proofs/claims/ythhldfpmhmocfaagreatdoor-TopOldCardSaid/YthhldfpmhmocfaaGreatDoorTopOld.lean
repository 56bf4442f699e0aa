/- The walk of the statement TopOld: who does not know where a name is moves nothing. -/
import Derived.Test.YthhldfpmhmocfaaGreatDoorTops
set_option linter.all false
set_option maxRecDepth 100000
set_option maxHeartbeats 8000000
namespace Go.Proofs.YthhldfpmhmocfaaGreatDoor
open Go.Proofs.Tryz
open Go.RowKit
theorem akf (gb base:Nat)(w0:World)(hgb:w0.heap.size≤gb):aim 21 [.pointer (some ⟨gb,0,none⟩)] base w0 (YE gb):=by
 intro s a g W W1 row row' S S' cs hok hkp hac hfit hbW hI hN hT hb1 hN1 hS' hr' hrep;have hst:=(OU (a:=a) hok hkp hac).old;have hok1:=(Uw (a:=a) hok hkp).1;have hW:=hI.touch iG.fair hT hS' hr';obtain⟨r,hr⟩:=exE (doF s a);rw[←hr] at hst hok1 hN1 hrep ⊢;obtain⟨vf,rfl,hrf⟩:=hrep;obtain⟨AF,kF,rfl,-,-⟩:=hrf.form;obtain⟨⟨rc,rn,rt,rf⟩,s2⟩:=r;obtain⟨ak,an,am,nm,ot,tx⟩:=a;dsimp only at hst hok1 hN1 ⊢;have Hst:=hidL hst;obtain⟨x1,x2,x3⟩:=bY W1 [.int .i64 ak,.int .i64 an,.int .i64 am,.string nm,.string ot,.string tx] [.int .i64 rc,.int .i64 rn,.string rt,.slice AF rf.length kF] 28 32;have hN2:=hN1.below x3;have hW2:=hW.below iG.fair x3;have hw0:=hb1.size;have hrl:s.rs.length≤6:=hok.most.2.1;have hr2:s2.rs.length≤6:=hok1.most.2.1;dsimp only[fQ];clear hst hok hkp hac hfit hbW hI hN hT hN1 hS' hr' hrf hr hW hok1 hb1;go_enter func21,ntmps21;go_upto_region 1 with fail;have hx:=x3.size;have hx2:W1.heap.size+1<_:=x2.lt;generalize World.alloc (World.alloc W1 _) _=W2 at x1 x2 x3 hN2 hW2 hx hx2 ⊢;obtain⟨A0,c0,T,hT0,hc0,hgl,-⟩:=hW2.open;have HX:=hidL hT0;have HN:=hidL hN2;have HW:=hidL hW2;clear hT0 hN2 hW2;go_wp2_with fail;go_loopw [13] (fun i wr=>∃ k:Nat,i=.int .i64 k∧k≤s.rs.length∧Below W2.heap.size W2 wr) (fun i _=>s.rs.length-(intOf i).toNat)
 case atStart=>exact⟨0,rfl,Nat.zero_le _,Below.refl _ _⟩
 case round =>
  obtain⟨k,rfl,hk,hb⟩:=hrel
  by_cases hlt:k<s.rs.length
  ·obtain⟨gr,o,rfl,hS,hgr⟩:=HX.out.base (by omega);have hc:=(HX.out.flat (enc:=aN) hlt).keep (az.of_below hb) hS;have hym:=List.getElem_mem hlt;obtain⟨y,hy⟩:=exE (s.rs[k]);rw[←hy] at hc hym;obtain⟨yn,yc,yp⟩:=y;have q0:wr.cell? ⟨gr,o+k*3,none⟩=some (.string yn):=hc.at_ 0 rfl;have q1:wr.cell? ⟨gr,o+k*3+1,none⟩=some (.int .i64 yc):=hc.at_ 1 rfl;have q2:wr.cell? ⟨gr,o+k*3+2,none⟩=some (.int .i64 yp):=hc.at_ 2 rfl;have hgl2:=Nat.lt_of_lt_of_le hgr hb.size;have hki:(k:Int)<s.rs.length:=by omega
   have Hym:=hidL hym;have z:=Box.new wr 37 [.string yn,.int .i64 yc,.int .i64 yp];have hbx:=(Below.here wr).alloc (Nat.le_refl _) (.cells [.string yn,.int .i64 yc,.int .i64 yp].toArray 37);have hb9:=aa hb hbx hb.size;have u1:=(x1.below hb x1.lt).below hbx (x1.below hb x1.lt).lt;have u2:=(x2.below hb x2.lt).below hbx (x2.below hb x2.lt).lt;clear hc hy hym hS hbx;go_upto_region 4 with fail;generalize wr.heap.size=Z at z ⊢;generalize World.alloc wr _=W4 at z u1 u2 hb9 ⊢;have a0:=u1.cell 0;have a1:=u1.cell 1;have a3:=u1.cell 3;have r0:=u2.cell 0;have z0:=z.cell 0;have z1:=z.cell 1;have l1:=u1.lt;have l2:=u2.lt;have l3:=z.lt;simp only[List.getElem?_cons_zero,List.getElem?_cons_succ] at a0 a1 a3 r0 z0 z1;clear q0 q1 q2 u1 u2 z hgl2 hc0;have hk4:ak=1∨ak=4∨ak=5∨(ak≠1∧ak≠4∧ak≠5):=by omega
   rcases hk4 with rfl | rfl | rfl | ⟨n1,n4,n5⟩
   case' inr.inr.inr =>
    have d1:(ak==1)=false:=by simpa using n1
    have d4:(ak==4)=false:=by simpa using n4
    have d5:(ak==5)=false:=by simpa using n5
   all_goals
    go_upto_region 5 with fail
    by_cases h1:yn=nm
    ·have e1:(yn.toList==nm.toList)=true:=by rw[ba_eq];simpa using h1
     by_cases h2:yc=an
     ·have e2:(yc != an)=false:=by simpa using h2
      clear h1 h2;go_wp2_with fail;go_roundw
      case rel=>exact⟨k+1,by go_num,hlt,hb9⟩
      case measure=>simp[intOf];omega
     ·have e2:(yc != an)=true:=by simpa using h2
      by_cases h3:rc=0
      ·have e3:(rc==0)=true:=by simpa using h3
       try exact absurd h3 (Hst.out ⟨yn,yc,yp⟩ Hym.out h1 (by decide) h2)
       all_goals
        clear h1 h2 h3;go_wp2_with fail;go_roundw
        case rel=>exact⟨k+1,by go_num,hlt,hb9⟩
        case measure=>simp[intOf];omega
      ·have e3:(rc==0)=false:=by simpa using h3
       clear h1 h2 h3;go_wp2_with fail;go_roundw
       case rel=>exact⟨k+1,by go_num,hlt,hb9⟩
       case measure=>simp[intOf];omega
    ·have e1:(yn.toList==nm.toList)=false:=by rw[ba_eq];simpa using h1
     clear h1;go_wp2_with fail;go_roundw
     case rel=>exact⟨k+1,by go_num,hlt,hb9⟩
     case measure=>simp[intOf];omega
  ·have hki:¬ (k:Int)<s.rs.length:=by omega
   have HR:=hidL (Au (HN.out.below hb) (by omega));go_wp2_with fail;refine HR.out.mono ?_;rintro e w6 ⟨v6,rfl,hv6,hb6⟩;obtain⟨A7,c7,rfl,-,-⟩:=hv6.form;have hW6:=(HW.out.below iG.fair hb).below iG.fair hb6;have hN6:=(HN.out.below hb).below hb6;obtain⟨A6,c6,T6,-,m0,ml,mf⟩:=hW6.open;have hw6:=aa (aa x3 hb hx) hb6 (Nat.le_trans hx hb.size);have hg1:g<W1.heap.size+1+1∨g<wr.heap.size:=.inr (HN.out.below hb).gLt;have Hf:Hid (Below w0.heap.size W1 (w6.setCell ⟨gb,0,none⟩ (.slice A7 s2.rs.length c7))∧bS S' row' base (w6.setCell ⟨gb,0,none⟩ (.slice A7 s2.rs.length c7)) g s2∧YE gb (w6.setCell ⟨gb,0,none⟩ (.slice A7 s2.rs.length c7)) s2 g row' S') :=
    ⟨(hw6.mono hw0).setCell (p:=⟨gb,0,none⟩) hgb _,hN6.was hW6 _,hW6.store iG.fair hv6 (HN.out.below hb).gLt (HN.out.below hb).ajS (HW.out.below iG.fair hb).open.choose_spec.choose_spec.choose_spec.2.2.1⟩
   clear hv6 hb6 hN6 hW6 hw6 hg1 HR hc0 hgl;go_wp2_with fail;go_ret;exact⟨rfl,Hf.out⟩
theorem acn (S:Nat→Prop)(v:Value)(l:List mG)(w:World)(hl:RSl 6 72 Tn S w [v] l)(hfit:∀ a∈l,IM a)(hG:qW w.heap.size w):Calls prog 5 #[v] w (Ret w (.bool true)):=by
 obtain⟨A,cap,rfl,-,-⟩:=hl.form;obtain⟨x1,x2⟩:=kZ w [.slice none 0 0] 23;have hgb:=x1.lt;have HP:=hidL (SI (I:=YE w.heap.size) 21 [.pointer (some ⟨w.heap.size,0,none⟩)] (enters_of func21 (by kernel_rfl) rfl) A cap l S w _ hl hfit x2 hG (akf w.heap.size _ w (Nat.le_refl _)) (fun W g hg hb _=>Was.new (x1.below hb x1.lt) (by omega)));clear hl hfit hG;go_enter func5,ntmps5;go_wp2_with fail;refine HP.out.mono ?_;rintro e w2 ⟨g,row,S2,rfl,-,-,hb⟩;have hb2:=x2.trans hb;clear hb x1 HP hgb;go_wp2_with fail;go_ret;exact⟨rfl,hb2⟩
end Go.Proofs.YthhldfpmhmocfaaGreatDoor
