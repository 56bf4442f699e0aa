/- The walk of eZ.Run: what it tells is what the acts tell, one behind the other. -/
import Derived.Test.YthhldfpmhmocfaaGreatDoorTopFar
set_option linter.all false
set_option maxRecDepth 100000
set_option maxHeartbeats 8000000
namespace Go.Proofs.YthhldfpmhmocfaaGreatDoor
open Go.Proofs.Tryz
open Go.RowKit
theorem sl_replies:dK prog 52 32 4 56:=dK.mk (z:=.agg #[.int .i64 0,.int .i64 0,.string .empty,.slice none 0 0]) underlying52 (by decide) (by decide) (by kernel_rfl) rfl
theorem sl_acts:dK prog 22 28 6 72:=dK.mk (z:=.agg #[.int .i64 0,.int .i64 0,.int .i64 0,.string .empty,.string .empty,.string .empty]) underlying22 (by decide) (by decide) (by kernel_rfl) rfl
def toldL (s:cK):List mG→List kR
 | []=>[]
 | a::l=>(doF s a).1::toldL (doF s a).2 l
theorem toldL_snoc:∀ (l:List mG) (s:cK) (a:mG),toldL s (l++[a])=toldL s l++[(doF (l.foldl (fun s a=>(doF s a).2) s) a).1]
 | [],_,_=>rfl
 | b::l,s,a=>by rw[List.cons_append,toldL,toldL_snoc l,toldL];rfl
theorem toldL_len:∀ (l:List mG) (s:cK),(toldL s l).length=l.length
 | [],_=>rfl
 | b::l,s=>by rw[toldL,List.length_cons,toldL_len l,List.length_cons]
theorem toldL_take:∀ (l:List mG) (s:cK) (k:Nat),toldL s (l.take k)=(toldL s l).take k
 | [],_,k=>by simp[toldL]
 | b::l,s,0=>rfl
 | b::l,s,k+1=>by rw[List.take_succ_cons,toldL,toldL,List.take_succ_cons,toldL_take l]
theorem told_step {l:List mG}{k:Nat}(h:k<l.length):toldL .new (l.take (k+1))=toldL .new (l.take k)++[(doF (Ic (l.take k)) l[k]).1]:=by
 rw[List.take_succ_eq_append_getElem h,toldL_snoc];rfl
section
variable {α:Type}{R:Rel α}{base e sz g:Nat}{S S' T:Nat→Prop}{row row':Option Nat}{w w':World}{v vt:Value}{xs:List α}{acc:List kR}{s:cK}
theorem Own.keepT (hR:Fair R)(h:Own base e sz R T w v xs)(hk:az S w w')(hS:∀ k,v.ownBlock=some k→S k)(hT:∀ y,T y→S y):Own base e sz R T w' v xs:=by
 obtain⟨css,⟨h0,h1⟩,h2,h3,h4⟩:=h;refine⟨css,⟨h0,?_⟩,h2,h3,fun k x cs hx hc=>⟨(h4 k x cs hx hc).1,hR.keep (h4 k x cs hx hc).2 (hk.mono hT)⟩⟩;rcases h1 with h1 | ⟨g,cap,cur,hv,hg,hh,hr⟩
 ·exact .inl h1
 ·refine .inr ⟨g,cap,cur,hv,hg,?_,hr⟩;rw[hk.2 g (hS g (by rw[hv];rfl)) (Array.getElem?_eq_some_iff.1 hh).1];exact hh
def RunAt (base:Nat)(w:World)(g:Nat)(row:Option Nat)(S:Nat→Prop)(vt:Value)(acc:List kR):Prop :=
 ∃ T,(∀ y,T y→base≤y∧y<w.heap.size∧y≠g∧row≠some y)∧(∀ k,vt.ownBlock=some k→k≠g∧row≠some k∧¬ S k)∧Own base 32 4 jd T w vt acc
theorem RunAt.nil (base:Nat)(w:World)(g:Nat)(row:Option Nat)(S:Nat→Prop):RunAt base w g row S (.slice none 0 0) [] :=
 ⟨NoT,fun _ h=>h.elim,fun k h=>by simp[Value.ownBlock] at h,Own.dJ _ _ _ _ _ _⟩
theorem RunAt.below (h:RunAt base w g row S vt acc)(hb:Below w.heap.size w w'):RunAt base w' g row S vt acc:=by
 obtain⟨T,h1,h2,h3⟩:=h;exact⟨T,fun y hy=>by have:=h1 y hy;exact⟨this.1,Nat.lt_of_lt_of_le this.2.1 hb.size,this.2.2⟩,h2,h3.below jd.fair hb⟩
theorem RunAt.form (h:RunAt base w g row S vt acc):∃ A cap,vt=.slice A acc.length cap∧acc.length≤cap:=by obtain⟨_,_,_,h⟩:=h;exact h.form
theorem RunAt.act (h:RunAt base w g row S vt acc)(hN:bS S' row' base w' g s)(hg:g<w.heap.size)(ht:Touch row g w w')(hS:∀ y,S' y→S y∨w.heap.size≤y)(hr:row'=row∨∀ k,row'=some k→w.heap.size≤k)(hb:base≤w.heap.size){cs:List Value}{x:kR}(hx:jd (fun y=>w.heap.size≤y∧row'≠some y) w' cs x) :
  ∃ T,(∀ y,T y→base≤y∧y<w'.heap.size∧y≠g∧row'≠some y)∧(∀ k,vt.ownBlock=some k→k≠g∧row'≠some k∧¬ S' k)∧Own base 32 4 jd T w' vt acc∧jd T w' cs x:=by
 obtain⟨T,h1,h2,h3⟩:=h;have hsz:=ht.size;have k3:=h3.keepT jd.fair (S:=fun y=>y≠g∧row≠some y) (w':=w') ⟨hsz,fun y hy hl=>ht.block y hl hy.1 hy.2⟩ (fun k e=>⟨(h2 k e).1,(h2 k e).2.1⟩) (fun y hy=>(h1 y hy).2.2);have kl:∀ k,vt.ownBlock=some k→k<w.heap.size:=fun k e=>(h3.lt e).2
 have row_ne:∀ y,y<w.heap.size→row≠some y→row'≠some y:=fun y hy hn=>by
  rcases hr with rfl | hr
  ·exact hn
  ·intro e;have:=hr y e;omega
 refine⟨fun y=>T y∨(w.heap.size≤y∧y<w'.heap.size∧row'≠some y),fun y hy=>?_,fun k e=>⟨(h2 k e).1,row_ne k (kl k e) (h2 k e).2.1,fun hs=>?_⟩,k3.mono jd.fair (fun y hy _=>.inl hy) (fun k e=>?_),jd.fair.mono hx (fun y hy hl=>.inr ⟨hy.1,hl,hy.2⟩)⟩
 ·rcases hy with hy | hy
  ·have:=h1 y hy;exact⟨this.1,by omega,this.2.2.1,row_ne y this.2.1 this.2.2.2⟩
  ·exact⟨by omega,hy.2.1,by omega,hy.2.2⟩
 ·rcases hS k hs with hs | hs
  ·exact(h2 k e).2.2 hs
  ·have:=kl k e;omega
 ·rintro(hT | hT)
  ·obtain⟨_,_,_,h33,_⟩:=h3;exact h33 k e hT
  ·have:=kl k e;omega
theorem bS.other (h:bS S row base w g s)(hg:w.grownBy w' vt.ownBlock)(hn:∀ k,vt.ownBlock=some k→k≠g∧row≠some k∧¬ S k):bS S row base w' g s:=by
 have hl:=h.gLt;have hS:∀ y,S y→y<w.heap.size:=by obtain⟨_,_,_,_,_,_,_,_,a7,_⟩:=h;exact a7
 refine h.touch (row:=vt.ownBlock) (g:=w.heap.size) (Touch.grown hg) ⟨by omega,fun e=>(hn _ e).1 rfl,fun e=>?_,fun k e e2=>(hn k e2).2.1 e,fun h2=>by have:=hS _ h2;omega,fun k e=>(hn k e).2.2⟩;subst e;have:=h.GM.2;omega
end
theorem RunAt.push {base g:Nat}{row:Option Nat}{S T:Nat→Prop}{w w2 w3:World}{vt v':Value}{acc:List kR}{s:cK}(hN:bS S row base w g s)(h1:∀ y,T y→base≤y∧y<w.heap.size∧y≠g∧row≠some y)(h2:∀ k,vt.ownBlock=some k→k≠g∧row≠some k∧¬ S k)(hw:w.heap.size≤w2.heap.size)(hg:w2.grownBy w3 vt.ownBlock)(hv:v'.ownBlock=vt.ownBlock∨v'.ownBlock=some w2.heap.size)(ho:Own base 32 4 jd T w3 v' acc):RunAt base w3 g row S v' acc:=by
 have hgl:=hN.gLt;have hS:∀ y,S y→y<w.heap.size:=by obtain⟨_,_,_,_,_,_,_,_,a7,_⟩:=hN;exact a7
 refine⟨T,fun y hy=>by have:=h1 y hy;have:=hg.size;exact⟨by omega,by omega,(h1 y hy).2.2⟩,fun k e=>?_,ho⟩;rcases hv with hv | hv
 ·exact h2 k (hv ▸ e)
 ·obtain rfl:w2.heap.size=k:=Option.some.inj (hv.symm.trans e);refine⟨by omega,fun e=>?_,fun h=>by have:=hS _ h;omega⟩;subst e;have:=hN.GM.2;omega
theorem run_any (S:Nat→Prop)(v:Value)(l:List mG)(w:World)(hl:RSl 6 72 Tn S w [v] l)(hfit:∀ a∈l,IM a)(hn:l.length≤200)(hG:qW w.heap.size w) :
  Calls prog 26 #[v] w (fun e w'=>∃ v',e=.returned (.tuple #[v',.int .i64 0])∧RSl 4 56 jd (New w) w' [v'] (toldL .new l)∧Below w.heap.size w w'):=by
 obtain⟨A,cap,rfl,-,-⟩:=hl.form;have HL:=hidL hl;have HF:=hidL hfit;have HG:=hidL hG;have HN:=hidL (aeu w.heap.size w (Nat.le_refl _));have d1:¬ 200<l.length:=by omega
 clear hl hfit hG;go_enter func26,ntmps26;go_wp2_with fail;refine HN.out.mono ?_;rintro e w1 ⟨rfl,hr1,hb1⟩;have hgg:w.heap.size<w1.heap.size:=hr1.gLt;obtain⟨g,hge⟩:=exE w.heap.size;have HGe:=hidL hge;have hGg:qW g w:=hge ▸ HG.out;have HGG:=hidL hGg;rw[←hge] at hr1 hb1 hgg ⊢;have HR1:=hidL hr1;have HB1:=hidL hb1;clear hr1 hb1 hGg HN HG d1 hge;go_wp2_with fail;go_loopw [5,14] (fun c5 c14 wr=>∃ (k:Nat) (vt:Value) (row:Option Nat) (S1:Nat→Prop),c5=vt∧c14=.int .i64 k∧k≤l.length∧bS S1 row g wr g (Ic (l.take k))∧RunAt g wr g row S1 vt (toldL .new (l.take k))∧Below g w wr∧g≤wr.heap.size) (fun _ c14 _=>l.length-(intOf c14).toNat)
 case atStart=>exact⟨0,_,none,NoT,rfl,rfl,Nat.zero_le _,HR1.out,RunAt.nil _ _ _ _ _,HB1.out,by omega⟩
 case round =>
  clear HR1 HB1 hgg;obtain⟨k,vt,row,S1,rfl,rfl,hk,hN,hR,hbw,hws⟩:=hrel
  by_cases h1:k<l.length
  ·obtain⟨gA,oA,rfl,hS,hgA⟩:=HL.out.base (by omega);have hgA2:gA<g:=by have:=HGe.out;omega
   have hc:=(HL.out.flat (enc:=fQ) h1).keep (S:=Old w) (az.of_below (HGe.out ▸ hbw)) hgA;have hgl:gA<wr.heap.size:=by omega
   obtain⟨h3,h4,h5⟩:=aet l k hk (by omega);have HT:Hid (Ic (l.take (k+1))=(doF (Ic (l.take k)) l[k]).2):=aan h1;have HU:Hid (toldL .new (l.take (k+1))=toldL .new (l.take k)++[(doF (Ic (l.take k)) l[k]).1]):=told_step h1;have hfa:=HF.out _ (List.getElem_mem h1);obtain⟨a,ha⟩:=exE (l[k]);rw[←ha] at hc HT HU hfa;obtain⟨s,hs⟩:=exE (Ic (l.take k));rw[←hs] at h3 h4 h5 hN HT HU;obtain⟨acc,hacc⟩:=exE (toldL .new (l.take k));have hal:acc.length≤200:=by rw[hacc,toldL_len,List.length_take];omega
   rw[←hacc] at hR HU;have HK3:=hidL h3;have HFA:=hidL hfa;have HNr:=hidL hN;have HRr:=hidL hR;have HBW:=hidL hbw;have hki:(k:Int)<l.length:=by omega
   clear ha hs hacc h3 h4 h5 hfa hN hR hbw hS hgA;obtain⟨ak,an,am,nm,ot,tx⟩:=a;have q0:wr.cell? ⟨gA,oA+k*6,none⟩=some (.int .i64 ak):=hc.at_ 0 rfl;have q1:wr.cell? ⟨gA,oA+k*6+1,none⟩=some (.int .i64 an):=hc.at_ 1 rfl;have q2:wr.cell? ⟨gA,oA+k*6+2,none⟩=some (.int .i64 am):=hc.at_ 2 rfl;have q3:wr.cell? ⟨gA,oA+k*6+3,none⟩=some (.string nm):=hc.at_ 3 rfl;have q4:wr.cell? ⟨gA,oA+k*6+4,none⟩=some (.string ot):=hc.at_ 4 rfl;have q5:wr.cell? ⟨gA,oA+k*6+5,none⟩=some (.string tx):=hc.at_ 5 rfl;clear hc;go_upto_region 8 with fail;have x:=Box.new wr 28 [.int .i64 ak,.int .i64 an,.int .i64 am,.string nm,.string ot,.string tx];have hbx:=(Below.here wr).alloc (Nat.le_refl _) (.cells [.int .i64 ak,.int .i64 an,.int .i64 am,.string nm,.string ot,.string tx].toArray 28);have HN4:=hidL (HNr.out.below hbx);have HR4:=hidL (HRr.out.below hbx);have hb4:=aa HBW.out hbx hws;have hz4:=Nat.le_trans hws hbx.size;clear hbx q0 q1 q2 q3 q4 q5 HNr HRr HBW hgl;generalize wr.heap.size=Z at x ⊢;generalize World.alloc wr _=W4 at x hb4 hz4 HN4 HR4 ⊢;have HD:=hidL (WL ⟨ak,an,am,nm,ot,tx⟩ HN4.out HK3.out HFA.out.1 HFA.out.2.2 hz4 (HGG.out.below hb4));dsimp only[fQ] at HD;have a0:=x.cell 0;have a1:=x.cell 1;have a2:=x.cell 2;have a3:=x.cell 3;have a4:=x.cell 4;have a5:=x.cell 5;have xl:=x.lt;simp only[List.getElem?_cons_zero,List.getElem?_cons_succ] at a0 a1 a2 a3 a4 a5;have HB4:=hidL hb4;clear x hb4;go_wp2_with fail;refine HD.out.mono ?_;obtain⟨r,hrr⟩:=exE (doF s ⟨ak,an,am,nm,ot,tx⟩);rw[←hrr] at HT HU ⊢;clear HD hrr a0 a1 a2 a3 a4 a5 xl;obtain⟨⟨rc,rn,rt,rf⟩,s2⟩:=r;rintro e w5 ⟨cs,S5,row5,rfl,⟨vf,rfl,hrf⟩,hN5,hS5,hr5,hT5⟩;obtain⟨RA,kF,rfl,-,-⟩:=hrf.form;dsimp only at hN5 hrf HT HU ⊢;obtain⟨T,t1,t2,t3,t4⟩:=HR4.out.act hN5 HN4.out.gLt hT5 hS5 hr5 hz4 (x:=(⟨rc,rn,rt,rf⟩:kR)) ⟨_,rfl,hrf⟩;have hb5:Below g W4 w5:=HN4.out.KE hT5 hz4;have hb05:=HB4.out.trans hb5;have hz5:=Nat.le_trans hz4 hT5.size;have X3:=hidL (t3.alloc jd.fair (.cells [.int .i64 rc,.int .i64 rn,.string rt,.slice RA rf.length kF].toArray 32));have X4:=hidL (jd.fair.keep t4 (az.alloc T w5 (.cells [.int .i64 rc,.int .i64 rn,.string rt,.slice RA rf.length kF].toArray 32)));have T1:=hidL t1;have T2:=hidL t2;have HN5:=hidL hN5;have HB5:=hidL hb05;have HS5:=hidL (show w5.heap.size≤(w5.alloc (.cells [.int .i64 rc,.int .i64 rn,.string rt,.slice RA rf.length kF].toArray 32)).heap.size by simp);obtain⟨AV,cV,rfl,-⟩:=t3.form;clear hrf hN5 hS5 hr5 hT5 t1 t2 t3 t4 hb5 hb05 HR4 HN4 HB4;go_wp2_with (at_builtin;go_must (refine bv _ rfl (.tmp 18) (.tmp 22) rfl sl_replies jd.fair rfl rfl X3.out (Src.one (es:=[.int .i64 rc,.int .i64 rn,.string rt,.slice RA rf.length kF]) (y:=⟨rc,rn,rt,rf⟩) rfl (gI.bK rfl) X4.out (ik.new _ _ _)) (fun y h=>Nat.lt_of_lt_of_le (T1.out y h).2.1 HS5.out) ?_ ?_ ?_))
   ·show (acc.length+1)*56≤_;omega
   ·exact Nat.le_trans hz5 (by simp)
   ·intro v7 w7 ho7 hg7 hv7;have hbA:=(Below.here w5).alloc (Nat.le_refl _) (.cells [.int .i64 rc,.int .i64 rn,.string rt,.slice RA rf.length kF].toArray 32);have hN7:=(HN5.out.below hbA).other hg7 T2.out;have hR7:=RunAt.push HN5.out T1.out T2.out HS5.out hg7 (by simpa using hv7) ho7;have hb7:Below g w w7:=below_grown (aa HB5.out hbA hz5) hg7 (Nat.le_trans hz5 HS5.out) (fun y e=>(X3.out.lt e).1);have hz7:=Nat.le_trans (Nat.le_trans hz5 HS5.out) hg7.size;rw[←HT.out] at hN7;rw[←HU.out] at hR7;clear ho7 hg7 hv7 hbA X3 X4 T1 T2 HN5 HB5 HS5;go_wp2_with fail;go_roundw
    case rel=>exact⟨k+1,v7,row5,S5,rfl,by go_num,h1,hN7,hR7,hb7,hz7⟩
    case measure=>simp[intOf];omega
  ·have hki:¬ (k:Int)<l.length:=by omega
   have hkl:l.take k=l:=List.take_of_length_le (by omega);rw[hkl] at hR;obtain⟨AV,cV,rfl,-⟩:=hR.form;have hlen:(toldL .new l).length≤200:=by rw[toldL_len];exact hn
   have HRD:=hidL (show RSl 4 56 jd (New w) wr [.slice AV (toldL .new l).length cV] (toldL .new l) from by
    obtain⟨T,t1,t2,t3⟩:=hR;exact t3.read jd.fair (fun y hy _=>by show w.heap.size≤y;rw[←HGe.out];exact(t1 y hy).1) (fun k e=>by show w.heap.size≤k;rw[←HGe.out];exact(t3.lt e).1) (by omega))
   have HB:=hidL hbw;clear hN hR hbw hkl;go_wp2_with fail;refine bodyPost_ret (results_tmp2 rfl _ _ _) rfl ?_;exact⟨_,rfl,HRD.out,HGe.out ▸ HB.out⟩
end Go.Proofs.YthhldfpmhmocfaaGreatDoor
