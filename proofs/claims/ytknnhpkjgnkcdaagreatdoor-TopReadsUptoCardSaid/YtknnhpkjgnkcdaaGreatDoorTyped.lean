/- Walks and plain laws. -/
import Derived.Test.YtknnhpkjgnkcdaaGreatDoorSmall
import Derived.Deep.DeepCutAuto
import Derived.Deep.CutBlock
import Derived.Test.YtknnhpkjgnkcdaaGreatDoorWires
set_option linter.all false
set_option maxRecDepth 100000
set_option maxHeartbeats 8000000
namespace Go.Proofs.YtknnhpkjgnkcdaaGreatDoor
section
open Go.Proofs.Tryz
open Go.RowKit
attribute [local go_sem ↓] Go.wp_at_zero Go.wp_at_succ
def qc (ids:List Int):Nat→Option Int
 | 0=>none
 | k+1=>ids[k]?
theorem VU {b:av}{t:ax}{kind n:Int}{s:ByteArray}{ids:List Int}{l:List aj}(h:kind≠2):cz b t (.mk kind n s ids l)=5:=by rw[cz,if_pos h]
theorem Vs {b:av}{t:ax}{n:Int}{s:ByteArray}{ids:List Int}{l:List aj}(h:ids.length≠l.length∨n≠0∨s.size≠0):cz b t (.mk 2 n s ids l)=1:=by
 rw[cz,if_neg (by simp),if_pos h]
theorem aaK {b:av}{t:ax}{n:Int}{s:ByteArray}{ids:List Int}{l:List aj}(h:¬ (ids.length≠l.length∨n≠0∨s.size≠0)) :
  cz b t (.mk 2 n s ids l)=if eT b t none ids l≠0 then eT b t none ids l else if qV t ids=true then 0 else 3:=by
 rw[cz,if_neg (by simp),if_neg h]
theorem JA {b:av}{t:ax}{ids:List Int}{l:List aj}{k:Nat}(hk:k<l.length)(hl:ids.length=l.length) :
  eT b t (qc ids k) (ids.drop k) (l.drop k)=(if mJ t (qc ids k) (ids[k]'(by go_light;omega))≠0 then mJ t (qc ids k) (ids[k]'(by go_light;omega))
   else if eO b ((aC t (ids[k]'(by go_light;omega))).getD .zero) l[k]≠0 then eO b ((aC t (ids[k]'(by go_light;omega))).getD .zero) l[k]
   else if ((aC t (ids[k]'(by go_light;omega))).getD .zero).kind=5∧cz b (typeOf b ((aC t (ids[k]'(by go_light;omega))).getD .zero).type) l[k]≠0 then cz b (typeOf b ((aC t (ids[k]'(by go_light;omega))).getD .zero).type) l[k]
   else eT b t (qc ids (k+1)) (ids.drop (k+1)) (l.drop (k+1))):=by
 have h1:ids.drop k=(ids[k]'(by go_light;omega))::ids.drop (k+1):=List.drop_eq_getElem_cons (by go_light;omega);have h2:l.drop k=l[k]::l.drop (k+1):=List.drop_eq_getElem_cons hk;have h3:qc ids (k+1)=some (ids[k]'(by go_light;omega)):=List.getElem?_eq_getElem (by go_light;omega);rw[h1,h2,eT,h3]
theorem Pm {t:ax}{last:Option Int}{id:Int}(h:(aC t id).isSome=false):mJ t last id=3:=by
 unfold mJ;cases hf:aC t id with
 | none=>rfl
 | some f=>rw[hf] at h;cases h
theorem MX {t:ax}{id:Int}(h:(aC t id).isSome=true):mJ t none id=0:=by
 unfold mJ;cases hf:aC t id with
 | none=>rw[hf] at h;cases h
 | some f=>rfl
theorem Pq {t:ax}{y id:Int}(h:(aC t id).isSome=true):mJ t (some y) id=if id<y then 1 else if y=id∧((aC t id).getD .zero).rule≠3 then 4 else 0:=by
 unfold mJ;cases hf:aC t id with
 | none=>rw[hf] at h;cases h
 | some f=>rfl
def Yp (S S':Nat→Prop)(vb:Value)(b:av)(d:Nat):Prop:=∀ (cst cs:List Value) (t:ax) (v:aj) (w:World),aD v≤d→RSl 5 96 ah S w [vb] b→ah S w cst t→aA S' w cs v→okV v →
  Calls prog 110 #[.agg #[vb],.agg cst.toArray,.agg cs.toArray] w (Ret w (O (cz b t v)))
theorem abV (S S':Nat→Prop)(vb:Value)(b:av)(d:Nat)(IH0:Yp S S' vb b d):Yp S S' vb b (d+1):=by
 intro cst cs t v w hd hb0 ht hr hok;obtain⟨kind,n,s,ids,l⟩:=v;obtain⟨A,cap,rfl,hlc,hlb⟩:=hb0.form;obtain⟨A1,k1,A2,k2,A3,k3,rfl,hf,hgn,hi⟩:=ht.parts;obtain⟨I1,d1,I2,d2,rfl,hri,hrl⟩:=hr.parts;obtain⟨_,_,_,hic,hib⟩:=hri.form;obtain⟨_,_,_,hlc2,hlb2⟩:=hrl.form;obtain⟨_,_,hff,hflc,hflb⟩:=hf.form;have IH:=hidL IH0;have HB:=hidL hb0;have HT:=hidL ht;have HF:=hidL hf;have HI:=hidL hri;have HL:=hidL hrl;rw[aD] at hd;rw[okV] at hok;have HD:=hidL (fun x (hx:x∈l)=>(show aD x≤d from by go_light;have:=gG hx;omega));have HO:=hidL (fun x (hx:x∈l)=>Kh hok.2 hx);have hss:s.size≤140737488351232:=hok.1;obtain⟨x1,x2,x3,x4⟩:=kW w [.slice A b.length cap] (TT t A1 k1 A2 k2 A3 k3) (VV kind n s I1 ids d1 I2 l d2) 38 53 65;clear hb0 ht hr hri hrl hf hgn hi hd hok hff;go_enter func110,ntmps110
 by_cases hk2:kind=2
 ·subst hk2
  by_cases hodd:ids.length≠l.length∨n≠0∨s.size≠0
  ·have Hno:=hidL (Vs (b:=b) (t:=t) hodd)
   by_cases ho1:ids.length=l.length
   ·by_cases ho2:n=0
    ·have hs:(s.toList==[])=false:=by
      cases hq:s.toList with
      | nil=>exact absurd (by rw[ByteArray.toList_eq] at hq;exact congrArg List.length hq) (show s.size≠0 by go_light;omega)
      | cons a l=>rfl
     have hll:((ids.length:Int) != l.length)=false:=by go_light;simp;omega
     have hnn:(n != 0)=false:=by simp[ho2]
     clear hodd ho1 ho2;go_wp2;go_ret;exact⟨iB (by rw[Hno.out]),x4⟩
    ·have hll:((ids.length:Int) != l.length)=false:=by go_light;simp;omega
     have hnn:(n != 0)=true:=by simpa using ho2
     clear hodd ho1 ho2;go_wp2;go_ret;exact⟨iB (by rw[Hno.out]),x4⟩
   ·have hll:((ids.length:Int) != l.length)=true:=by go_light;simp;omega
    clear hodd ho1;go_wp2;go_ret;exact⟨iB (by rw[Hno.out]),x4⟩
  ·have Hon:=hidL (aaK (b:=b) (t:=t) hodd);have hll:ids.length=l.length:=by go_light;omega
   obtain rfl:n=0:=by go_light;omega
   obtain rfl:s=⟨#[]⟩:=qH (by go_light;omega);clear hodd;have Hll:=hidL hll;have hlb:((ids.length:Int) != l.length)=false:=by go_light;simp;omega
   clear hll;go_wp2_with fail;go_loopw [40] (fun i wr=>∃ k:Nat,i=O k∧k≤ids.length∧Hid (eT b t (qc ids k) (ids.drop k) (l.drop k)=eT b t none ids l) ∧
    Box wr w.heap.size 38 [.slice A b.length cap]∧Box wr (w.heap.size+1) 53 (TT t A1 k1 A2 k2 A3 k3)∧Box wr (w.heap.size+1+1) 65 [O 2,O 0,E0,.slice I1 ids.length d1,.slice I2 l.length d2]∧Below w.heap.size w wr) (fun i _=>ids.length-(intOf i).toNat)
   case atStart=>exact⟨0,rfl,by go_light;omega,rfl,x1,x2,x3,x4⟩
   case round =>
    obtain⟨k,rfl,hk,he,hbb,hbt,hbv,hb⟩:=hrel;clear x1 x2 x3 x4
    by_cases hlt:k<ids.length
    ·have hkl:k<l.length:=by go_light;have:=Hll.out;omega
     obtain⟨ig,io,rfl,hSi,hgi⟩:=HI.out.base (by go_light;omega);obtain⟨lg,lo,rfl,hSl,hlgw⟩:=HL.out.base (by go_light;omega);have hci:=(HI.out.flat (enc:=fun x:Int=>[O x]) hlt).keep (az.of_below hb) hSi;obtain⟨es,_,hrx,hlies⟩:=HL.out.lies hkl;have hst:=JA (b:=b) (t:=t) hkl Hll.out;have hdx:=HD.out l[k] (List.getElem_mem hkl);have hox:=HO.out l[k] (List.getElem_mem hkl);have hpv:0<k→LL wr ig (io+(k-1)) (O ids[k-1]):=fun h0=>by
      have:=((HI.out.flat (enc:=fun x:Int=>[O x]) (show k-1<ids.length by go_light;omega)).keep (az.of_below hb) hSi).at_ 0 rfl;simpa using this
     obtain⟨id,hid⟩:=exE (ids[k]);obtain⟨x,hx⟩:=exE (l[k]);rw[←hid] at hci hst;rw[←hx] at hrx hst hdx hox;rw[he.out] at hst;obtain⟨vk,vn,vs,vi,vl⟩:=x;obtain⟨E1,f1,E2,f2,rfl,_,_⟩:=hrx.parts;have q0:LL wr ig (io+k) (O id):=by have:=hci.at_ 0 rfl;simpa using this
     have hgil:ig<wr.heap.size:=Nat.lt_of_lt_of_le hgi hb.size;have HLs:=hidL hlies;have HRx:=hidL hrx;have HDx:=hidL hdx;have HOk:=hidL hox;have hos:vs.size≤140737488351232:=by rw[okV] at hox;exact hox.1
     have HOx:Hid ((aj.mk vk vn vs vi vl).s.size≤140737488351232):=hos;have Hst0:=hidL hst;have Hret:Hid (∀ e,eT b t none ids l=e→e≠0→cz b t (.mk 2 0 ⟨#[]⟩ ids l)=e):=fun e h1 h2=>by rw[Hon.out,if_pos (by rw[h1];exact h2),h1]
     have hpv1:=hpv;clear hci hrx hst hdx hox hos hid hx hlies hpv;obtain⟨bt0,bt1,bt2,bt3,bt4⟩:=hbt.five;have hltt:=hbt.lt;have Hpv:=hidL hpv1;clear hpv1;go_wp2_with fail;refine(yZ S _ t id _ (ah.fair.keep HT.out (az.of_below hb))).mono ?_;rintro e w1 ⟨fx,hfx,rfl,hb1⟩;have Hst1:Hid (eT b t none ids l=if mJ t (qc ids k) id≠0 then mJ t (qc ids k) id else if eO b fx (.mk vk vn vs vi vl)≠0 then eO b fx (.mk vk vn vs vi vl)
       else if fx.kind=5∧cz b (typeOf b fx.type) (.mk vk vn vs vi vl)≠0 then cz b (typeOf b fx.type) (.mk vk vn vs vi vl) else eT b t (qc ids (k+1)) (ids.drop (k+1)) (l.drop (k+1))):=by
      show _=_;rw[←hfx.out];exact Hst0.out
     have hplace:∀ y,(aC t id).isSome=true→mJ t (some y) id=if id<y then 1 else if y=id∧fx.rule≠3 then 4 else 0:=fun y h=>by
      rw[Pq h,hfx.out]
     obtain⟨xid,xname,xtype,xkind,xrule⟩:=fx;dsimp only at Hst1 hplace ⊢;have Hplace:=hidL hplace;have hw1:=aa hb hb1 hb.size;have hw2:=hw1.alloc hw1.size (.cells (FF xid xname xtype xkind xrule).toArray 55);have hbb2:=(hbb.below hb1 hbb.lt).alloc (.cells (FF xid xname xtype xkind xrule).toArray 55);have hbt2:=(hbt.below hb1 hbt.lt).alloc (.cells (FF xid xname xtype xkind xrule).toArray 55);have hbv1:=hbv.below hb1 hbv.lt;have hbv2:=hbv1.alloc (.cells (FF xid xname xtype xkind xrule).toArray 55);have hx2:Box (w1.alloc (.cells (FF xid xname xtype xkind xrule).toArray 55)) w1.heap.size 55 (FF xid xname xtype xkind xrule):=Box.new w1 _ _;have hgil1:ig<w1.heap.size:=Nat.lt_of_lt_of_le hgil hb1.size;have hpv1:0<k→w1.cell? ⟨ig,io+(k-1),none⟩=some (O ids[k-1]):=fun h0=>by
      rw[World.cell?_of_block (w:=wr) (hb1.block ig hgil)];exact Hpv.out h0
     have v3:LL w1 (w.heap.size+1+1) 3 (.slice (some ⟨ig,io,none⟩) ids.length d1):=hbv1.cell 3;have hlv1:=hbv1.lt;obtain⟨so,hso⟩:=exE ((aC t id).isSome);rw[←hso];have Hso:=hidL hso;clear hb1 hbb hbt hbv hbv1 hso hplace hfx Hst0 bt0 bt1 bt2 bt3 bt4 q0 Hpv he
     go_upto_block 2 with fail
     go_cut [] from 51 to 84 (fun wx=>Hid (eT b t none ids l=if eO b ⟨xid,xname,xtype,xkind,xrule⟩ (.mk vk vn vs vi vl)≠0 then eO b ⟨xid,xname,xtype,xkind,xrule⟩ (.mk vk vn vs vi vl)
           else if xkind=5∧cz b (typeOf b xtype) (.mk vk vn vs vi vl)≠0 then cz b (typeOf b xtype) (.mk vk vn vs vi vl) else eT b t (qc ids (k+1)) (ids.drop (k+1)) (l.drop (k+1)))∧wx=w1.alloc (.cells (FF xid xname xtype xkind xrule).toArray 55))
     case first =>
      cases so with
      | false =>
       have Hno:=hidL (Hret.out 3 (by rw[Hst1.out,Pm Hso.out.symm,if_pos (by decide)]) (by decide));clear hpv1;go_wp2;go_ret;exact⟨iB (by rw[Hno.out]),hw2⟩
      | true =>
       by_cases hk0:0<k
       ·have hpvk:=hpv1 hk0;obtain⟨y,hye⟩:=exE (ids[k-1]);have hlast:qc ids k=some y:=by
         obtain⟨j,rfl⟩:∃ j,k=j+1:=⟨k-1,by go_light;omega⟩;rw[hye];exact List.getElem?_eq_getElem (by go_light;omega)
        rw[hlast,Hplace.out y Hso.out.symm] at Hst1;rw[←hye] at hpvk;have e1:IntKind.i64.wrap ((k:Int)-1)=(k:Int)-1:=IntWalk.i64_in _ (by go_light;omega);have e2:((k:Int)-1).toNat=k-1:=by go_light;omega
        clear hpv1 hlast hye
        by_cases hlo:id<y
        ·have Hno:=hidL (Hret.out 1 (by rw[Hst1.out,if_pos hlo,if_pos (by decide)]) (by decide));go_wp2;go_ret;exact⟨iB (by rw[Hno.out]),hw2⟩
        ·by_cases heq:y=id∧xrule≠3
         ·have Hno:=hidL (Hret.out 4 (by rw[Hst1.out,if_neg hlo,if_pos heq,if_pos (by decide)]) (by decide));obtain⟨heq1,heq2⟩:=heq;have hyb:(y==id)=true:=by simpa using heq1
          have hrb:(xrule != 3)=true:=by simpa using heq2
          clear heq1 heq2;go_wp2;go_ret;exact⟨iB (by rw[Hno.out]),hw2⟩
         ·have hst2:=hidL (Hst1.out.trans (by rw[if_neg hlo,if_neg heq,if_neg (by simp)]));clear Hst1
          by_cases hy1:y=id
          ·have hr3:xrule=3:=by
            by_cases h:xrule=3
            ·exact h
            ·exact absurd ⟨hy1,h⟩ heq
           have hyb:(y==id)=true:=by simpa using hy1
           have hrb:(xrule != 3)=false:=by simpa using hr3
           clear heq hy1 hr3;go_wp2;go_meet
           case rel=>exact⟨hst2,rfl⟩
          ·have hyb:(y==id)=false:=by simpa using hy1
           clear heq hy1;go_wp2;go_meet
           case rel=>exact⟨hst2,rfl⟩
       ·have hlast:qc ids k=none:=by rw[show k=0 from by go_light;omega];rfl
        rw[hlast,MX Hso.out.symm,if_neg (by simp)] at Hst1;clear hlast hpv1;go_wp2;go_meet
        case rel=>exact⟨Hst1,rfl⟩
     case rest =>
      obtain⟨Hst,rfl⟩:=hcut;clear Hst1 Hso hpv1 v3 hlv1 Hplace;go_wp2_with fail;generalize hW:w1.alloc (.cells (FF xid xname xtype xkind xrule).toArray 55)=W at *;generalize hXX:w1.heap.size=X at *;clear hW hXX;have HSK:Hid (∀ W',Box W' w.heap.size 38 [.slice A b.length cap]→Box W' X 55 (FF xid xname xtype xkind xrule)→Box W' (w.heap.size+1+1) 65 [O 2,O 0,E0,.slice (some ⟨ig,io,none⟩) ids.length d1,.slice (some ⟨lg,lo,none⟩) l.length d2]→Below w.heap.size w W' →
        LL W' w.heap.size 0 (.slice A b.length cap)∧(LL W' X 0 (O xid)∧LL W' X 1 (.string xname)∧LL W' X 2 (.string xtype)∧LL W' X 3 (O xkind)∧LL W' X 4 (O xrule)) ∧
        LL W' (w.heap.size+1+1) 4 (.slice (some ⟨lg,lo,none⟩) l.length d2)∧(LL W' lg (lo+k*5) (O vk)∧LL W' lg (lo+k*5+1) (O vn)∧LL W' lg (lo+k*5+2) (.string vs)∧LL W' lg (lo+k*5+3) (.slice E1 vi.length f1)∧LL W' lg (lo+k*5+4) (.slice E2 vl.length f2))) :=
       fun W' h1 h2 h3 h4=>⟨h1.cell 0,h2.five,h3.cell 4,by
        have hc:=HLs.out.keep (S:=Old w) (az.of_below h4) hlgw;exact⟨hc.at_ 0 rfl,hc.at_ 1 rfl,hc.at_ 2 rfl,hc.at_ 3 rfl,hc.at_ 4 rfl⟩⟩
      have hS:=HSK.out W.drew hbb2.drew hx2.drew hbv2.drew (au hw2);refine aY (lt:=7) (hm:=by kernel_rfl) (h:=?_) (S:=fun W'=>LL W' w.heap.size 0 (.slice A b.length cap)∧(LL W' X 0 (O xid)∧LL W' X 1 (.string xname)∧LL W' X 2 (.string xtype)∧LL W' X 3 (O xkind)∧LL W' X 4 (O xrule)) ∧
        LL W' (w.heap.size+1+1) 4 (.slice (some ⟨lg,lo,none⟩) l.length d2)∧(LL W' lg (lo+k*5) (O vk)∧LL W' lg (lo+k*5+1) (O vn)∧LL W' lg (lo+k*5+2) (.string vs)∧LL W' lg (lo+k*5+3) (.slice E1 vi.length f1)∧LL W' lg (lo+k*5+4) (.slice E2 vl.length f2)))
      apply tkL 0 hS;apply tkL 1 hS;apply tkL 2 hS;apply tkL 3 hS;apply tkL 4 hS;apply tkL 5 hS;apply tkL 6 hS
      try simp only[pu]
      refine anq 7 (fun K hK=>?_);go_simp;refine(aaP S S' _ b ⟨xid,xname,xtype,xkind,xrule⟩ _ (.mk vk vn vs vi vl) _ ((RSl.fair ah.fair).below HB.out (au hw2)) (aA.fair.below HRx.out (au hw2)) HOx.out).mono ?_;rintro e w3 ⟨rfl,hb3⟩;refine hK.out _ _ nay ?_
      try simp only[pu]
      refine anq 8 (fun K hK=>?_);go_simp;refine hK.out _ _ nay ?_
      try simp only[pu]
      refine ani ?_ _;have hw3:=aa (au hw2) hb3 (au hw2).size;have hbb3:=hbb2.drew.below hb3 hbb2.drew.lt;have hbt3:=hbt2.drew.below hb3 hbt2.drew.lt;have hbv3:=hbv2.drew.below hb3 hbv2.drew.lt;have hx3:=hx2.drew.below hb3 hx2.drew.lt;clear hS hb3 hbb2 hbt2 hbv2 hx2 hw2;obtain⟨fi,hfi⟩:=exE (eO b ⟨xid,xname,xtype,xkind,xrule⟩ (.mk vk vn vs vi vl));rw[←hfi] at Hst ⊢;clear hfi
      by_cases hfi0:fi=0
      ·subst hfi0;obtain⟨_,c1,c2,c3,_⟩:=hx3.five;have hlx:=hx3.lt
       by_cases hk5:xkind=5
       ·have b5:(xkind==5)=true:=by simpa using hk5
        have s0:LL w3 w.heap.size 0 (.slice A b.length cap):=hbb3.cell 0;have hlb3:=hbb3.lt;go_wp2_with fail;refine(gH S _ b xtype _ ((RSl.fair ah.fair).below HB.out hw3)).mono ?_;rintro e w4 ⟨cs4,rfl,hr4,hb4⟩;obtain⟨G1,g1,G2,g2,G3,g3,rfl,-,-,-⟩:=hr4.parts;obtain⟨ty,hty⟩:=exE (typeOf b xtype);have hty':(aM b xtype).getD ax.zero=ty:=hty.symm;rw[hty'] at hr4 ⊢;rw[←hty] at Hst;obtain⟨okx,hokx⟩:=exE ((aM b xtype).isSome);rw[←hokx];clear hty hty' hokx s0 c1 c2 c3;have hw4:=aa hw3 hb4 hw3.size;have hw5:=hw4.alloc hw4.size (.cells (TT ty G1 g1 G2 g2 G3 g3).toArray 53);have hbb5:=(hbb3.below hb4 hbb3.lt).alloc (.cells (TT ty G1 g1 G2 g2 G3 g3).toArray 53);have hbt5:=(hbt3.below hb4 hbt3.lt).alloc (.cells (TT ty G1 g1 G2 g2 G3 g3).toArray 53);have hbv5:=(hbv3.below hb4 hbv3.lt).alloc (.cells (TT ty G1 g1 G2 g2 G3 g3).toArray 53);have hy5:Box (w4.alloc (.cells (TT ty G1 g1 G2 g2 G3 g3).toArray 53)) w4.heap.size 53 (TT ty G1 g1 G2 g2 G3 g3):=Box.new w4 _ _;have HR4:=hidL (ah.fair.keep hr4 ((az.of_below hb4).trans (az.alloc S w4 (.cells (TT ty G1 g1 G2 g2 G3 g3).toArray 53))));clear hr4 hb4 hw4 hbb3 hbt3 hbv3 hx3 hw3;go_wp2_with fail;generalize hWW:w4.alloc (.cells (TT ty G1 g1 G2 g2 G3 g3).toArray 53)=V at *;generalize hYY:w4.heap.size=Y at *;clear hWW hYY;have HSV:Hid (∀ W',Box W' w.heap.size 38 [.slice A b.length cap]→Box W' Y 53 (TT ty G1 g1 G2 g2 G3 g3)→Box W' (w.heap.size+1+1) 65 [O 2,O 0,E0,.slice (some ⟨ig,io,none⟩) ids.length d1,.slice (some ⟨lg,lo,none⟩) l.length d2]→Below w.heap.size w W' →
          LL W' w.heap.size 0 (.slice A b.length cap)∧(LL W' Y 0 (.string ty.name)∧LL W' Y 1 (.bool ty.enum)∧LL W' Y 2 (.slice G1 ty.fields.length g1)∧LL W' Y 3 (.slice G2 ty.gone.length g2)∧LL W' Y 4 (.slice G3 ty.items.length g3)) ∧
          LL W' (w.heap.size+1+1) 4 (.slice (some ⟨lg,lo,none⟩) l.length d2)∧(LL W' lg (lo+k*5) (O vk)∧LL W' lg (lo+k*5+1) (O vn)∧LL W' lg (lo+k*5+2) (.string vs)∧LL W' lg (lo+k*5+3) (.slice E1 vi.length f1)∧LL W' lg (lo+k*5+4) (.slice E2 vl.length f2))) :=
         fun W' h1 h2 h3 h4=>⟨h1.cell 0,h2.five,h3.cell 4,by
          have hc:=HLs.out.keep (S:=Old w) (az.of_below h4) hlgw;exact⟨hc.at_ 0 rfl,hc.at_ 1 rfl,hc.at_ 2 rfl,hc.at_ 3 rfl,hc.at_ 4 rfl⟩⟩
        have hS:=HSV.out V.drew hbb5.drew hy5.drew hbv5.drew (au hw5);refine aY (lt:=7) (hm:=by kernel_rfl) (h:=?_) (S:=fun W'=>LL W' w.heap.size 0 (.slice A b.length cap)∧(LL W' Y 0 (.string ty.name)∧LL W' Y 1 (.bool ty.enum)∧LL W' Y 2 (.slice G1 ty.fields.length g1)∧LL W' Y 3 (.slice G2 ty.gone.length g2)∧LL W' Y 4 (.slice G3 ty.items.length g3)) ∧
          LL W' (w.heap.size+1+1) 4 (.slice (some ⟨lg,lo,none⟩) l.length d2)∧(LL W' lg (lo+k*5) (O vk)∧LL W' lg (lo+k*5+1) (O vn)∧LL W' lg (lo+k*5+2) (.string vs)∧LL W' lg (lo+k*5+3) (.slice E1 vi.length f1)∧LL W' lg (lo+k*5+4) (.slice E2 vl.length f2)))
        apply tkL 0 hS;apply tkL 1 hS;apply tkL 2 hS;apply tkL 3 hS;apply tkL 4 hS;apply tkL 5 hS;apply tkL 6 hS
        try simp only[pu]
        refine anq 7 (fun K hK=>?_);go_simp;refine(IH.out _ _ ty (.mk vk vn vs vi vl) _ HDx.out ((RSl.fair ah.fair).below HB.out (au hw5)) (ah.fair.keep HR4.out (az.drew _ _)) (aA.fair.below HRx.out (au hw5)) HOk.out).mono ?_;rintro e w6 ⟨rfl,hb6⟩;refine hK.out _ _ nay ?_
        try simp only[pu]
        refine anq 8 (fun K hK=>?_);go_simp;refine hK.out _ _ nay ?_
        try simp only[pu]
        refine ani ?_ _;have hw6:=aa (au hw5) hb6 (au hw5).size;have hbb6:=hbb5.drew.below hb6 hbb5.drew.lt;have hbt6:=hbt5.drew.below hb6 hbt5.drew.lt;have hbv6:=hbv5.drew.below hb6 hbv5.drew.lt;clear hS hb6 hbb5 hbt5 hbv5 hy5 hw5;obtain⟨tc,htc⟩:=exE (cz b ty (.mk vk vn vs vi vl));rw[←htc] at Hst ⊢;clear htc
        by_cases htc0:tc=0
        ·subst htc0;have he2:Hid (eT b t (qc ids (k+1)) (ids.drop (k+1)) (l.drop (k+1))=eT b t none ids l):=by
          show _=_;rw[Hst.out,if_neg (by simp),if_neg (by simp)]
         clear hk5;go_wp2;go_roundw
         case rel=>first | exact⟨k+1,by go_num,by go_light;omega,he2,hbb6,hbt6,hbv6,hw6⟩ | ((repeat apply Exists.intro);exact⟨⟨k+1,by go_num,by go_light;omega,he2,hbb6,hbt6,hbv6,hw6⟩,rfl⟩)
         case measure=>go_light;simp[intOf];omega
        ·have Hno:=hidL (Hret.out tc (by rw[Hst.out,if_neg (by simp),if_pos ⟨hk5,htc0⟩]) htc0);have hcb:(tc != 0)=true:=by simpa using htc0
         clear htc0 hk5;go_wp2;go_ret;exact⟨iB (by rw[Hno.out]),hw6⟩
       ·have b5:(xkind==5)=false:=by simpa using hk5
        have he2:Hid (eT b t (qc ids (k+1)) (ids.drop (k+1)) (l.drop (k+1))=eT b t none ids l):=by
         show _=_;rw[Hst.out,if_neg (by simp),if_neg (fun h=>hk5 h.1)]
        clear hk5;go_wp2;go_roundw
        case rel=>first | exact⟨k+1,by go_num,by go_light;omega,he2,hbb3,hbt3,hbv3,hw3⟩ | ((repeat apply Exists.intro);exact⟨⟨k+1,by go_num,by go_light;omega,he2,hbb3,hbt3,hbv3,hw3⟩,rfl⟩)
        case measure=>go_light;simp[intOf];omega
      ·have Hno:=hidL (Hret.out fi (by rw[Hst.out,if_pos hfi0]) hfi0);have hcb:(fi != 0)=true:=by simpa using hfi0
       clear hfi0;go_wp2;go_ret;exact⟨iB (by rw[Hno.out]),hw3⟩
    ·have hgo:eT b t none ids l=0:=by
      have hdl:l.drop k=[]:=List.drop_eq_nil_of_le (by go_light;have:=Hll.out;omega);rw[←he.out,hdl,eT]
     have Hfin:Hid (cz b t (.mk 2 0 ⟨#[]⟩ ids l)=if qV t ids=true then 0 else 3):=by
      show _=_;rw[Hon.out,if_neg (by rw[hgo];decide)]
     obtain⟨bt0,bt1,bt2,bt3,bt4⟩:=hbt.five;have hltt:=hbt.lt;clear hgo he;obtain⟨wo,rfl⟩:=exE (wr:World);go_wp2_with fail;clear bt0 bt1 bt2 bt3 bt4;go_loopw [121] (fun i wr=>∃ q:Nat,i=O q∧q≤t.fields.length∧Hid ((t.fields.drop q).all (fun f=>decide (f.rule≠1)||dV ids f.id)=qV t ids) ∧
      Box wr (w.heap.size+1+1) 65 [O 2,O 0,E0,.slice I1 ids.length d1,.slice I2 l.length d2]∧Below w.heap.size w wr) (fun i _=>t.fields.length-(intOf i).toNat)
     case atStart=>exact⟨0,rfl,by go_light;omega,rfl,hbv,hb⟩
     case round =>
      clear hbb hbt hbv hb hlt hk hltt;obtain⟨q,rfl,hq,hfu,hbv,hb⟩:=hrel
      by_cases hlt:q<t.fields.length
      ·obtain⟨g,o,rfl,hS,hg⟩:=HF.out.base (by go_light;omega);have hc:=(HF.out.flat (enc:=aI) hlt).keep (az.of_below hb) hS;have hdr:t.fields.drop q=t.fields[q]::t.fields.drop (q+1):=List.drop_eq_getElem_cons hlt;rw[hdr,List.all_cons] at hfu;obtain⟨f,hxe⟩:=exE (t.fields[q]);rw[←hxe] at hc hfu;obtain⟨fid,fname,ftype,fkind,frule⟩:=f;have q0:=hc.a0 rfl;have q1:=hc.at_ 1 rfl;have q2:=hc.at_ 2 rfl;have q3:=hc.at_ 3 rfl;have q4:=hc.at_ 4 rfl;have v3:LL wr (w.heap.size+1+1) 3 (.slice I1 ids.length d1):=hbv.cell 3;have hlv:=hbv.lt;have hgl:g<wr.heap.size:=Nat.lt_of_lt_of_le hg hb.size;dsimp only at hfu;clear hc hxe hdr;have hwa:=hb.alloc hb.size (.cells (FF fid fname ftype fkind frule).toArray 55);have hbva:=hbv.alloc (.cells (FF fid fname ftype fkind frule).toArray 55)
       by_cases hr1:frule=1
       ·have hrb:(frule==1)=true:=by simpa using hr1
        obtain⟨hh,hhe⟩:=exE (dV ids fid);have hcall:=fun W (h:RSl 1 8 aQ S' W [.slice I1 ids.length d1] ids)=>OI S' _ ids fid W h
        rw[←hhe] at hcall hfu;have hfu2:Hid ((hh&&(t.fields.drop (q+1)).all (fun f=>decide (f.rule≠1)||dV ids f.id))=qV t ids):=by
         show _=_;rw[←hfu.out];simp[hr1]
        have Hcall:=hidL hcall;have HIa:=hidL ((RSl.fair aQ.fair).below HI.out hwa);clear hfu hr1 hhe hcall;cases hh with
        | true =>
         have hfu3:Hid ((t.fields.drop (q+1)).all (fun f=>decide (f.rule≠1)||dV ids f.id)=qV t ids):=by show _=_;rw[←hfu2.out];simp
         go_wp2_with fail;refine(Hcall.out _ HIa.out).mono ?_;rintro e w' ⟨rfl,rfl⟩;go_wp2;go_roundw
         case rel=>exact⟨q+1,by go_num,by go_light;omega,hfu3,hbva,hwa⟩
         case measure=>go_light;simp[intOf];omega
        | false =>
         have Hno:=hidL (show cz b t (.mk 2 0 ⟨#[]⟩ ids l)=3 from by rw[Hfin.out,if_neg (by rw[←hfu2.out];simp)]);go_wp2_with fail;refine(Hcall.out _ HIa.out).mono ?_;rintro e w' ⟨rfl,rfl⟩;go_wp2;go_ret;exact⟨iB (by rw[Hno.out]),hwa⟩
       ·have hrb:(frule==1)=false:=by simpa using hr1
        have hfu3:Hid ((t.fields.drop (q+1)).all (fun f=>decide (f.rule≠1)||dV ids f.id)=qV t ids):=by show _=_;rw[←hfu.out];simp[hr1]
        clear hfu hr1;go_wp2;go_roundw
        case rel=>exact⟨q+1,by go_num,by go_light;omega,hfu3,hbva,hwa⟩
        case measure=>go_light;simp[intOf];omega
      ·have hdr:t.fields.drop q=[]:=List.drop_eq_nil_of_le (by go_light;omega);rw[hdr] at hfu;have Hyes:=hidL (show cz b t (.mk 2 0 ⟨#[]⟩ ids l)=0 from by rw[Hfin.out,if_pos (by rw[←hfu.out];rfl)]);clear hdr hfu;go_wp2;go_ret;exact⟨iB (by rw[Hyes.out]),hb⟩
 ·have Hno:=hidL (VU (b:=b) (t:=t) (n:=n) (s:=s) (ids:=ids) (l:=l) hk2);have hkb:(kind != 2)=true:=by simpa using hk2
  clear hk2;go_wp2;go_ret;exact⟨iB (by rw[Hno.out]),x4⟩
theorem UK (S S':Nat→Prop)(vb:Value)(b:av):∀ (d:Nat),Yp S S' vb b d
 | 0=>fun _ _ _ v _ hd _ _ _ _=>by
  obtain⟨kind,n,s,ids,l⟩:=v;rw[aD] at hd;omega
 | d+1=>abV S S' vb b d (UK S S' vb b d)
end
section
open Go.Proofs.Tryz
open Go.RowKit
theorem AQ (b:av)(name:ByteArray):dW b name=(!(aM b name).isSome||(typeOf b name).enum):=by
 unfold dW typeOf;cases h:aM b name <;> rfl
theorem uB (S S':Nat→Prop)(vb:Value)(b:av)(name:ByteArray)(cs:List Value)(v:aj)(w:World)(hb0:RSl 5 96 ah S w [vb] b)(hr:aA S' w cs v)(hW:Words w)(hB:aS b)(hok:okV v)(hd:aD v≤4611686018427387904)(hc:aW v≤4611686018427387904) :
  Calls prog 82 #[.agg #[vb],.string name,.agg cs.toArray] w (Ret w (O (dQ b name v))):=by
 obtain⟨A,cap,rfl,hlc,hlb⟩:=hb0.form;obtain⟨r,hrr⟩:=exE (dQ b name v);have Hr:=hidL (show r=if aB b≠0 then 1 else if dW b name=true then 3 else if jA v=false then 7 else cz b (typeOf b name) v from hrr);rw[←hrr];have Hsm:=hidL (fun W (h:aA S' W cs v)=>Ut S' cs v W h hd hc);have Hty:=hidL (fun W cst (h0:RSl 5 96 ah S W [.slice A b.length cap] b) (h1:ah S W cst (typeOf b name)) (h2:aA S' W cs v)=>UK S S' (.slice A b.length cap) b (aD v) cst cs (typeOf b name) v W (Nat.le_refl _) h0 h1 h2 hok);obtain⟨sm,hsm⟩:=exE (jA v);obtain⟨tf,htf⟩:=exE (cz b (typeOf b name) v);rw[←hsm] at Hsm Hr;rw[←htf] at Hty Hr;rw[AQ] at Hr;obtain⟨gd,hgd⟩:=exE (aB b);have Hgood:=hidL (fun W (h0:RSl 5 96 ah S W [.slice A b.length cap] b) (h1:Words W)=>kS S _ b W h0 h1 hB);rw[←hgd] at Hgood Hr;have HB:=hidL hb0;have HW:=hidL hW;have HV:=hidL hr;obtain⟨kind,n,s,ids,l⟩:=v;obtain⟨I1,d1,I2,d2,rfl,_,_⟩:=hr.parts;obtain⟨x1,x2,x3⟩:=bY w [.slice A b.length cap] (VV kind n s I1 ids d1 I2 l d2) 38 65;clear hb0 hr hW hB hok hd hc hrr hsm htf hgd;go_enter func82,ntmps82;go_wp2_with fail;refine(gH S _ b name _ ((RSl.fair ah.fair).below HB.out x3)).mono ?_;rintro e w1 ⟨cs3,rfl,hr3,hb1⟩;obtain⟨B1,l1,B2,l2,B3,l3,rfl,-,-,-⟩:=hr3.parts;have hw1:=aa x3 hb1 x3.size;have y1:=x1.below hb1 x1.lt;have y2:=x2.below hb1 x2.lt;obtain⟨ty,hty⟩:=exE (typeOf b name);have hty':(aM b name).getD ax.zero=ty:=hty.symm;rw[hty'] at hr3 ⊢;rw[←hty] at Hty Hr;obtain⟨ok,hok⟩:=exE ((aM b name).isSome);rw[←hok] at Hr ⊢;have hw2:=hw1.alloc hw1.size (.cells (TT ty B1 l1 B2 l2 B3 l3).toArray 53);have z1:=y1.alloc (.cells (TT ty B1 l1 B2 l2 B3 l3).toArray 53);have z2:=y2.alloc (.cells (TT ty B1 l1 B2 l2 B3 l3).toArray 53);have z3:Box (w1.alloc (.cells (TT ty B1 l1 B2 l2 B3 l3).toArray 53)) w1.heap.size 53 (TT ty B1 l1 B2 l2 B3 l3):=Box.new w1 _ _;have HR3:=hidL (ah.fair.keep hr3 ((az.of_below hb1).trans (az.alloc S w1 (.cells (TT ty B1 l1 B2 l2 B3 l3).toArray 53))));have s0:LL w1 w.heap.size 0 (.slice A b.length cap):=y1.cell 0;have hl1:=y1.lt;clear hb1 hty hty' hok hr3 x1 x2 x3;go_wp2_with fail;refine(Hgood.out _ ((RSl.fair ah.fair).below HB.out hw2) (HW.out.below hw2)).mono ?_;rintro e w3 ⟨rfl,hb3⟩;have hw3:=aa hw2 hb3 hw2.size;have v1:=z1.below hb3 z1.lt;have v2:=z2.below hb3 z2.lt;have v3:=z3.below hb3 z3.lt;have HR4:=hidL (ah.fair.keep HR3.out (az.of_below hb3));obtain⟨t0,t1,t2,t3,t4⟩:=v3.five;obtain⟨u0,u1,u2,u3,u4⟩:=v2.five;have hl3:=v3.lt;have hl2:=v2.lt;clear hb3 z1 z2 z3 HR3 hw2 s0 hl1
 by_cases hg:gd=0
 ·subst hg;rw[if_neg (by simp)] at Hr;obtain⟨tyn,tye,tyf,tyg,tyi⟩:=ty;dsimp only at Hr t0 t1 t2 t3 t4;cases ok with
  | false =>
   simp only[Bool.not_false,Bool.true_or,if_true] at Hr;go_wp2;go_ret;exact⟨iB (by rw[Hr.out]),hw3⟩
  | true =>
   cases tye with
   | true =>
    simp only[Bool.not_true,Bool.false_or,if_true] at Hr;go_wp2;go_ret;exact⟨iB (by rw[Hr.out]),hw3⟩
   | false =>
    simp only[Bool.not_true,Bool.false_or,Bool.false_eq_true,if_false] at Hr;go_wp2_with fail;refine(Hsm.out _ (aA.fair.below HV.out hw3)).mono ?_;rintro e w5 ⟨rfl,hb5⟩;have hw5:=aa hw3 hb5 hw3.size;have p1:=v1.below hb5 v1.lt;have p2:=v2.below hb5 v2.lt;have p3:=v3.below hb5 v3.lt;obtain⟨t0',t1',t2',t3',t4'⟩:=p3.five;obtain⟨u0',u1',u2',u3',u4'⟩:=p2.five;have hl3':=p3.lt;have hl2':=p2.lt;have s0:LL w5 w.heap.size 0 (.slice A b.length cap):=p1.cell 0;have hl1:=p1.lt;have HR5:=hidL (ah.fair.keep HR4.out (az.of_below hb5));clear hb5 t0 t1 t2 t3 t4 u0 u1 u2 u3 u4 HR4;cases sm with
    | false =>
     simp only[if_true] at Hr;go_wp2;go_ret;exact⟨iB (by rw[Hr.out]),hw5⟩
    | true =>
     simp only[Bool.true_eq_false,if_false] at Hr;go_wp2_with fail;refine(Hty.out _ _ ((RSl.fair ah.fair).below HB.out hw5) HR5.out (aA.fair.below HV.out hw5)).mono ?_;rintro e w6 ⟨rfl,hb6⟩;go_wp2;go_ret;exact⟨iB (by rw[Hr.out]),aa hw5 hb6 hw5.size⟩
 ·have hgb:(gd != 0)=true:=by simpa using hg
  rw[if_pos hg] at Hr;clear hg;go_wp2;go_ret;exact⟨iB (by rw[Hr.out]),hw3⟩
attribute [local go_sem ↓] Go.wp_at_zero Go.wp_at_succ
mutual
def Wu:aj→Prop
 | .mk _ _ _ ids l=>ids.length=l.length∧afe l
def afe:List aj→Prop
 | []=>True
 | x::l=>(x.kind=2→Wu x)∧afe l
end
theorem Pw:∀ {l:List aj} {x:aj},afe l→x∈l→x.kind=2→Wu x
 | [],_,_,h,_=>by cases h
 | y::l,x,hl,h,h2=>by
  rw[afe] at hl;rcases List.mem_cons.1 h with rfl | h
  ·exact hl.1 h2
  ·exact Pw hl.2 h h2
theorem aev:∀ {l:List aj},(∀ x∈l,x.kind=2→Wu x)→afe l
 | [],_=>trivial
 | x::l,h=>by rw[afe];exact⟨h x (by simp),aev fun y hy=>h y (by simp[hy])⟩
theorem KR {b:av}(hg:aB b=0):∀ (d:Nat) (v:aj) (t:ax),aD v≤d→dU b t→cz b t v=0→Wu v
 | 0,.mk _ _ _ _ _,_,hd,_,_=>by rw[aD] at hd;omega
 | d+1,.mk kind n s ids l,t,hd,hm,ht=>by
  obtain⟨a1,a2,a3,a4,a5,a6,a7,a8⟩:=(iO b t _).1 ht;simp only[aj.kind,aj.ids,aj.l,aj.n,aj.s] at a1 a2 a3 a4 a5 a6 a7 a8;rw[aD] at hd;rw[Wu];refine⟨a2,aev fun x hx hx2=>?_⟩;obtain⟨i,hi,rfl⟩:=List.getElem_of_mem hx;have hz:(ids[i]'(by omega),l[i])∈ids.zip l:=List.mem_iff_getElem.2 ⟨i,by simp;omega,by simp⟩;have hfit:=a7 _ hz;obtain⟨f,hff⟩:=Option.isSome_iff_exists.1 (a5 (ids[i]'(by omega)) (List.getElem_mem _));unfold vR at hfit;simp only[hff,Option.getD_some] at hfit;have hf:=bC hm (bE hff).1;have h5:f.kind=5:=by
   have:=(ja hfit.1).1;rw[hx2] at this;unfold kindOf at this;split at this
   ·simp at this
   ·split at this
    ·assumption
    ·simp at this
  obtain⟨t2,_,h2,_,_,_,hm2⟩:=gZ hg hf h5;have:=gG hx;exact KR hg d l[i] t2 (by omega) hm2 (h2 ▸ hfit.2 h5)
def wG (w:World)(r:List UInt8 × Int)(e:Ending)(w':World):Prop:=amg w (.string ⟨r.1.toArray⟩) (O r.2) e w'
theorem Jh {ids:List Int}{l:List aj}{k:Nat}(hk:k<l.length)(hl:ids.length=l.length)(acc:List Part) :
  eH (ids.drop k) (l.drop k) acc=if l[k].kind=2∧(dI l[k]).2≠0 then ([],(dI l[k]).2) else eH (ids.drop (k+1)) (l.drop (k+1)) (acc++[partOf (ids[k]'(by omega)) l[k] (dI l[k]).1]):=by
 have h1:ids.drop k=(ids[k]'(by omega))::ids.drop (k+1):=List.drop_eq_getElem_cons (by omega);have h2:l.drop k=l[k]::l.drop (k+1):=List.drop_eq_getElem_cons hk;rw[h1,h2,eH]
theorem aix {l:List Part}{r:List UInt8}(h:jD l []=(r,0)):r.length≤20000:=by
 obtain⟨e1,_,e3⟩:=Jp l [] r h
 by_cases hl:l=[]
 ·subst hl;rw[e1];simp
 ·exact e3 hl
theorem aaj:∀ (v:aj),(dI v).2=0→(dI v).1.length≤20000
 | .mk k n s ids l,h=>by
  rw[dI] at h ⊢
  by_cases h1:(eH ids l []).2≠0
  ·rw[if_pos h1] at h;exact absurd h h1
  ·rw[if_neg h1] at h ⊢;exact aix (by rw[←h])
theorem ik.newAt {w:World}{g:Nat}{cs:List Value}{e:TypeId}(h:g=w.heap.size):ik (w.alloc (.cells cs.toArray e)) g 0 cs:=h ▸ ik.new w cs e
theorem MN (S:Nat→Prop):∀ (d:Nat) (cs:List Value) (v:aj) (w:World),aD v≤d→aA S w cs v→okV v→Wu v →
  Calls prog 83 #[.agg cs.toArray] w (wG w (dI v))
 | 0,_,.mk _ _ _ _ _,_,hd,_,_,_=>by rw[aD] at hd;omega
 | d+1,cs,.mk kind n s ids l,w,hd,hr,hok,hlen=>by
  obtain⟨I1,d1,I2,d2,rfl,hri,hrl⟩:=hr.parts;obtain⟨_,_,_,hic,hib⟩:=hri.form;obtain⟨_,_,_,hlc2,hlb2⟩:=hrl.form;rw[aD] at hd;rw[okV] at hok;rw[Wu] at hlen;have IH:=hidL (MN S d);have HI:=hidL hri;have HL:=hidL hrl;have Hll:=hidL hlen.1;have HN:=hidL (fun x (hx:x∈l)=>Pw hlen.2 hx);have HD:=hidL (fun x (hx:x∈l)=>(show aD x≤d from by have:=gG hx;omega));have HO:=hidL (fun x (hx:x∈l)=>Kh hok.2 hx);have Hres:Hid (dI (.mk kind n s ids l)=if (eH ids l []).2≠0 then ([],(eH ids l []).2) else jD (eH ids l []).1 []):=by show _=_;rw[dI]
  obtain⟨x1,x2⟩:=kZ w (VV kind n s I1 ids d1 I2 l d2) 65;clear hr hri hrl hd hok hlen;go_enter func83,ntmps83;go_wp2_with fail;go_loopw [4,12] (fun v i wr=>∃ (k:Nat) (acc:List Part),i=O k∧k≤l.length∧Hid (eH (ids.drop k) (l.drop k) acc=eH ids l [])∧acc.length=k∧Hid (∀ p∈acc,p.s.size≤maxLen) ∧
   Own (w.heap.size+1) 178 4 dm NoT wr v acc∧Box wr w.heap.size 65 (VV kind n s I1 ids d1 I2 l d2)∧Below w.heap.size w wr) (fun _ i _=>l.length-(intOf i).toNat)
  case atStart=>exact⟨0,[],rfl,by omega,rfl,rfl,(show ∀ p∈([]:List Part),p.s.size≤maxLen from fun p hp=>by cases hp),Own.dJ _ _ _ _ _ _,x1,x2⟩
  case round =>
   obtain⟨k,acc,rfl,hk,he,hac,hps,hor0,hbv,hb⟩:=hrel;clear x1 x2;have hor:=hor0;obtain⟨R0,p0,rfl,_⟩:=hor0.form;have Hac:=hidL hac;clear hor0 hac
   by_cases hlt:k<l.length
   ·have hki:k<ids.length:=by have:=Hll.out;omega
    obtain⟨ig,io,rfl,hSi,hgi⟩:=HI.out.base (by omega);obtain⟨lg,lo,rfl,hSl,hlgw⟩:=HL.out.base (by omega);have hci:=(HI.out.flat (enc:=fun x:Int=>[O x]) hki).keep (az.of_below hb) hSi;obtain⟨es,_,hrx,hlies⟩:=HL.out.lies hlt;have hst:=Jh hlt Hll.out acc;have hdx:=HD.out l[k] (List.getElem_mem hlt);have hox:=HO.out l[k] (List.getElem_mem hlt);have hnx:=HN.out l[k] (List.getElem_mem hlt);obtain⟨id,hid⟩:=exE (ids[k]);obtain⟨x,hx⟩:=exE (l[k]);rw[←hid] at hci hst;rw[←hx] at hrx hst hdx hox hnx;rw[he.out] at hst;obtain⟨xk,xn,xs,xi,xl⟩:=x;obtain⟨E1,f1,E2,f2,rfl,_,_⟩:=hrx.parts;have hcl:=hlies.keep (az.of_below hb) hSl;have p0:wr.cell? ⟨ig,io+k,none⟩=some (O id):=by have:=hci.at_ 0 rfl;simpa using this
    have q0:=hcl.a0 rfl;have q1:=hcl.at_ 1 rfl;have q2:=hcl.at_ 2 rfl;have q3:=hcl.at_ 3 rfl;have q4:=hcl.at_ 4 rfl;have hlgl:lg<wr.heap.size:=Nat.lt_of_lt_of_le hlgw hb.size;have hgil:ig<wr.heap.size:=Nat.lt_of_lt_of_le hgi hb.size;have hos:xs.size≤140737488351232:=by rw[okV] at hox;exact hox.1
    have hwa:=hb.alloc hb.size (.cells (VV xk xn xs E1 xi f1 E2 xl f2).toArray 65);have Hrx:=hidL (aA.fair.keep hrx (az.of_below hwa));have Hst:=hidL hst;have HDx:=hidL hdx;have HOx:=hidL hox;have HNx:=hidL hnx;clear hci hrx hst hdx hox hnx hid hx hlies hcl he;have hbva:=hbv.alloc (.cells (VV xk xn xs E1 xi f1 E2 xl f2).toArray 65);have hora:=hor.alloc dm.fair (.cells (VV xk xn xs E1 xi f1 E2 xl f2).toArray 65);have hxa:Box (wr.alloc (.cells (VV xk xn xs E1 xi f1 E2 xl f2).toArray 65)) wr.heap.size 65 (VV xk xn xs E1 xi f1 E2 xl f2):=Box.new wr _ _;have p0a:(wr.alloc (.cells (VV xk xn xs E1 xi f1 E2 xl f2).toArray 65)).cell? ⟨ig,io+k,none⟩=some (O id):=by rw[World.cell?_of_block (w:=wr) (Below.heap_alloc wr _ ig hgil)];exact p0
    go_wp2_with fail;generalize hW:wr.alloc (.cells (VV xk xn xs E1 xi f1 E2 xl f2).toArray 65)=W at *;generalize hXX:wr.heap.size=X at *;clear hW hXX q0 q1 q2 q3 q4 p0 hbv hor;have hgiW:ig<W.heap.size:=by have:=hwa.size;omega
    have HSK:Hid (∀ W',Box W' w.heap.size 65 (VV kind n s (some ⟨ig,io,none⟩) ids d1 (some ⟨lg,lo,none⟩) l d2)→Box W' X 65 (VV xk xn xs E1 xi f1 E2 xl f2)→W'.cell? ⟨ig,io+k,none⟩=some (O id) →
      W'.cell? ⟨w.heap.size,3,none⟩=some (.slice (some ⟨ig,io,none⟩) ids.length d1)∧W'.cell? ⟨ig,io+k,none⟩=some (O id)∧W'.cell? ⟨X,0,none⟩=some (O xk)∧W'.cell? ⟨X,1,none⟩=some (O xn)∧W'.cell? ⟨X,2,none⟩=some (.string xs)) :=
     fun W' h1 h2 h3=>⟨h1.cell 3,h3,h2.cell 0,h2.cell 1,h2.cell 2⟩
    have hS:=HSK.out W.drew hbva.drew hxa.drew p0a;refine aY (lt:=13) (hm:=by kernel_rfl) (h:=?_) (S:=fun W'=>W'.cell? ⟨w.heap.size,3,none⟩=some (.slice (some ⟨ig,io,none⟩) ids.length d1)∧W'.cell? ⟨ig,io+k,none⟩=some (O id)∧W'.cell? ⟨X,0,none⟩=some (O xk)∧W'.cell? ⟨X,1,none⟩=some (O xn)∧W'.cell? ⟨X,2,none⟩=some (.string xs));apply tkL 0 hS;apply tkL 1 hS;apply tkL 2 hS;apply tkL 3 hS;apply tkL 4 hS;apply tkL 5 hS;apply tkL 6 hS;apply tkL 7 hS;apply tkL 8 hS;apply tkL 9 hS;apply tkL 10 hS;apply tkL 11 hS
    try simp only[pu]
    refine anq 12 (fun K hK=>?_);go_simp;have hpx:Box (W.alloc (.cells #[O 0,O 0,O 0,E0] 178)).drew W.heap.size 178 [O 0,O 0,O 0,E0]:=(Box.new W _ _).drew;have hS:=HSK.out (W.alloc (.cells #[O 0,O 0,O 0,E0] 178)).drew (hbva.alloc _).drew (hxa.alloc _).drew (by
     have:(W.alloc (.cells #[O 0,O 0,O 0,E0] 178)).drew.cell? ⟨ig,io+k,none⟩=W.cell? ⟨ig,io+k,none⟩:=World.cell?_of_block (Below.heap_alloc W _ ig hgiW);rw[this];exact p0a)
    refine hK.out _ _ (fun _=>hS) ?_
    try simp only[pu]
    refine anq 13 (fun K hK=>?_);go_simp;refine hK.out _ _ nay ?_
    try simp only[pu]
    refine ani ?_ _;have hpy:Box (W.alloc (.cells #[O id,O xk,O xn,.string xs] 178)).drew W.heap.size 178 [O id,O xk,O xn,.string xs]:=(Box.new W _ _).drew;have hwy:=au (hwa.alloc hwa.size (.cells #[O id,O xk,O xn,.string xs] 178));have hxy:=(hxa.alloc (.cells #[O id,O xk,O xn,.string xs] 178)).drew;have hby:=(hbva.alloc (.cells #[O id,O xk,O xn,.string xs] 178)).drew;have hoy:=(hora.alloc dm.fair (.cells #[O id,O xk,O xn,.string xs] 178)).drew dm.fair;have Hry:=hidL (aA.fair.keep (aA.fair.keep Hrx.out (az.alloc S W (.cells #[O id,O xk,O xn,.string xs] 178))) (az.drew S _));have hXW:X<W.heap.size:=hxa.lt;have hwP:w.heap.size≤W.heap.size:=hwa.size;have hwP2:w.heap.size<W.heap.size:=hbva.lt;have hnP:(Value.slice R0 acc.length p0).ownBlock≠some W.heap.size:=fun e=>by have:=(hora.lt e).2;omega
    clear hS hpx hxa hbva hora p0a;generalize hV:(W.alloc (.cells #[O id,O xk,O xn,.string xs] 178)).drew=V at *;generalize hPP:W.heap.size=P at *;clear hV hPP;obtain⟨y0,y1,y2,y3,y4⟩:=hxy.five;have hlx:=hxy.lt;have hlp:=hpy.lt
    by_cases hk2:xk=2
    ·subst hk2;obtain⟨r,hr⟩:=exE (dI (.mk 2 xn xs xi xl));have hcall:=fun W (h:aA S W (VV 2 xn xs E1 xi f1 E2 xl f2) (.mk 2 xn xs xi xl))=>IH.out (VV 2 xn xs E1 xi f1 E2 xl f2) (.mk 2 xn xs xi xl) W HDx.out h HOx.out (HNx.out rfl)
     rw[←hr] at hcall Hst;have Hcall:=hidL hcall;have Hrl:=hidL (show r.2=0→r.1.length≤20000 from by rw[hr];exact aaj _);have Hst2:Hid (eH ids l []=if r.2≠0 then ([],r.2) else eH (ids.drop (k+1)) (l.drop (k+1)) (acc++[⟨id,2,xn,⟨r.1.toArray⟩⟩])):=by
      show _=_;rw[Hst.out];simp only[aj.kind,partOf,aj.n,true_and,if_true]
     clear hcall hr Hst;go_wp2_with fail;refine(Hcall.out _ Hry.out).mono ?_;rintro e w3 ⟨rfl,hb3⟩;obtain⟨rb,rc⟩:=r;dsimp only at Hst2 ⊢;have hw3:=aa hwy hb3 hwy.size;have hp3:=hpy.below hb3 hpy.lt;have hb3v:=hby.below hb3 hby.lt;have ho3:=hoy.below dm.fair hb3;have f3:=hp3.frozen 3;have c3:=hp3.c 3 rfl;have hl3:=hp3.lt;have hw4:=hw3.setCell (p:=⟨P,3,none⟩) (by simpa using hwP) (.string ⟨rb.toArray⟩);have hp4:=hp3.gB 3 (.string ⟨rb.toArray⟩);have hb4v:=hb3v.far (p:=⟨P,3,none⟩) (by simp;omega) (.string ⟨rb.toArray⟩);have ho4:=ho3.setCell dm.fair (p:=⟨P,3,none⟩) (.string ⟨rb.toArray⟩) hnP (fun h=>h.elim);simp only[List.set_cons_zero,List.set_cons_succ] at hp4;clear hb3 y0 y1 y2 y3 y4
     by_cases hrc:rc=0
     ·subst hrc;have Hst3:Hid (eH (ids.drop (k+1)) (l.drop (k+1)) (acc++[⟨id,2,xn,⟨rb.toArray⟩⟩])=eH ids l []):=by
       show _=_;rw[Hst2.out,if_neg (by simp)]
      have hrl:rb.length≤20000:=Hrl.out rfl;obtain⟨z0,z1,z2,z3⟩:(w3.setCell ⟨P,3,none⟩ (.string ⟨rb.toArray⟩)).cell? ⟨P,0,none⟩=some (O id)∧(w3.setCell ⟨P,3,none⟩ (.string ⟨rb.toArray⟩)).cell? ⟨P,1,none⟩=some (O 2)∧(w3.setCell ⟨P,3,none⟩ (.string ⟨rb.toArray⟩)).cell? ⟨P,2,none⟩=some (O xn)∧(w3.setCell ⟨P,3,none⟩ (.string ⟨rb.toArray⟩)).cell? ⟨P,3,none⟩=some (.string ⟨rb.toArray⟩):=⟨hp4.cell 0,hp4.cell 1,hp4.cell 2,hp4.cell 3⟩;clear Hst2 Hrl;go_wp2_with (at_builtin;go_must (refine bv _ rfl (.tmp 41) (.tmp 43) rfl tJ dm.fair rfl rfl (ho4.alloc dm.fair _) (Src.one (es:=[O id,O 2,O xn,.string ⟨rb.toArray⟩]) (y:=Part.mk id 2 xn ⟨rb.toArray⟩) rfl (gI.bK rfl) rfl (ik.newAt (by first | rfl | simp[World.setCell]))) (NoT.lt _) ?_ ?_ ?_))
      ·simp;have:=Hac.out;omega
      ·have:=hw4.size;simp at this ⊢;omega
      intro v5 w5 ho5 hg5 hv5;have hw5:=below_grown (hw4.alloc hw4.size (.cells #[O id,O 2,O xn,.string ⟨rb.toArray⟩] 178)) hg5 (by have:=hw4.size;simp at this ⊢;omega) (fun g' h=>by have:=(ho4.lt h).1;omega);have hb5:=(hb4v.alloc (.cells #[O id,O 2,O xn,.string ⟨rb.toArray⟩] 178)).grown hg5 (fun e=>by have:=(ho4.lt e).1;omega);have Hps2:Hid (∀ p∈acc++[⟨id,2,xn,⟨rb.toArray⟩⟩],p.s.size≤maxLen):=by
       show ∀ p∈acc++[⟨id,2,xn,⟨rb.toArray⟩⟩],p.s.size≤maxLen;intro p hp;rcases List.mem_append.1 hp with hp | hp
       ·exact hps.out p hp
       ·simp at hp;subst hp;show rb.length≤maxLen;unfold maxLen;omega
      go_wp2;go_roundw
      case rel=>exact⟨k+1,acc++[⟨id,2,xn,⟨rb.toArray⟩⟩],by go_num,by omega,Hst3,by rw[List.length_append,Hac.out];rfl,Hps2,ho5,hb5,hw5⟩
      case measure=>simp[intOf];omega
     ·have hcb:(rc != 0)=true:=by simpa using hrc
      have Hno:Hid (dI (.mk kind n s ids l)=([],rc)):=by
       show _=_;rw[Hres.out,Hst2.out,if_pos hrc];simp[hrc]
      clear hrc;go_wp2_with fail
      go_ret2
      rw[Hno.out];exact⟨rfl,hw4⟩
    ·have hkb:(xk==2)=false:=by simpa using hk2
     have Hst3:Hid (eH (ids.drop (k+1)) (l.drop (k+1)) (acc++[⟨id,xk,xn,xs⟩])=eH ids l []):=by
      show _=_;rw[Hst.out];simp only[aj.kind,partOf,aj.n,aj.s,hk2,false_and,if_false]
     obtain⟨z0,z1,z2,z3⟩:V.cell? ⟨P,0,none⟩=some (O id)∧V.cell? ⟨P,1,none⟩=some (O xk)∧V.cell? ⟨P,2,none⟩=some (O xn)∧V.cell? ⟨P,3,none⟩=some (.string xs):=⟨hpy.cell 0,hpy.cell 1,hpy.cell 2,hpy.cell 3⟩;clear Hst hk2;go_wp2_with (at_builtin;go_must (refine bv _ rfl (.tmp 41) (.tmp 43) rfl tJ dm.fair rfl rfl (hoy.alloc dm.fair _) (Src.one (es:=[O id,O xk,O xn,.string xs]) (y:=Part.mk id xk xn xs) rfl (gI.bK rfl) rfl (ik.newAt (by first | rfl | simp[World.setCell]))) (NoT.lt _) ?_ ?_ ?_))
     ·simp;have:=Hac.out;omega
     ·have:=hwy.size;simp;omega
     intro v5 w5 ho5 hg5 hv5;have hw5:=below_grown (hwy.alloc hwy.size (.cells #[O id,O xk,O xn,.string xs] 178)) hg5 (by have:=hwy.size;simp;omega) (fun g' h=>by have:=(hoy.lt h).1;omega);have hb5:=(hby.alloc (.cells #[O id,O xk,O xn,.string xs] 178)).grown hg5 (fun e=>by have:=(hoy.lt e).1;omega);have Hps2:Hid (∀ p∈acc++[⟨id,xk,xn,xs⟩],p.s.size≤maxLen):=by
      show ∀ p∈acc++[⟨id,xk,xn,xs⟩],p.s.size≤maxLen;intro p hp;rcases List.mem_append.1 hp with hp | hp
      ·exact hps.out p hp
      ·simp at hp;subst hp;show xs.size≤maxLen;unfold maxLen;omega
     go_wp2;go_roundw
     case rel=>exact⟨k+1,acc++[⟨id,xk,xn,xs⟩],by go_num,by omega,Hst3,by rw[List.length_append,Hac.out];rfl,Hps2,ho5,hb5,hw5⟩
     case measure=>simp[intOf];omega
   ·have hdl:l.drop k=[]:=List.drop_eq_nil_of_le (by omega);have hgo:eH ids l []=(acc,0):=by rw[←he.out,hdl,eH]
    have Hfin:Hid (dI (.mk kind n s ids l)=jD acc []):=by show _=_;rw[Hres.out,hgo];simp
    have hacl:acc.length*40≤140737488351232:=by have:=Hac.out;omega
    have HRd:=hidL (hor.read (S:=fun _=>True) (by_:=40) dm.fair (fun _ _ _=>trivial) (fun _ _=>trivial) hacl);clear hdl hgo he;go_wp2_with fail;refine(uu _ _ acc _ HRd.out hps.out).mono ?_;rintro e w3 ⟨rfl,hb3⟩;obtain⟨⟨rb,rc⟩,hr⟩:∃ r,r=jD acc []:=⟨_,rfl⟩;rw[←hr];have Hr:=hidL hr;clear hr;go_wp2_with fail
    go_ret2
    rw[Hfin.out,←Hr.out];exact⟨rfl,aa hb hb3 hb.size⟩
end
section
open Go.Proofs.Tryz
open Go.RowKit
def jf (w:World)(r:aj × Int)(e:Ending)(w':World):Prop:=∃ cs,e=.returned (.tuple #[.agg cs.toArray,O r.2])∧aA (New w) w' cs r.1∧Below w.heap.size w w'
def UY (S:Nat→Prop)(w:World)(v:aj)(e:Ending)(w':World):Prop:=∃ cs,e=.returned (.agg cs.toArray)∧aA (Un S w) w' cs v∧Below w.heap.size w w'
theorem oF (S S':Nat→Prop)(vb:Value)(b:av)(name:ByteArray)(cs:List Value)(v:aj)(w:World)(hb0:RSl 5 96 ah S w [vb] b)(hr:aA S' w cs v)(hW:Words w)(hB:aS b)(hok:okV v)(hd:aD v≤4611686018427387904)(hc:aW v≤4611686018427387904) :
  Calls prog 43 #[.agg #[vb],.string name,.agg cs.toArray] w (wG w (iF b name v)):=by
 obtain⟨A,cap,rfl,hlc,hlb⟩:=hb0.form;obtain⟨r,hrr⟩:=exE (iF b name v);have Hr:=hidL (show r=if dQ b name v≠0 then ([],dQ b name v) else dI v from hrr);rw[←hrr];have Hty:=hidL (fun W (h0:RSl 5 96 ah S W [.slice A b.length cap] b) (h1:aA S' W cs v) (h2:Words W)=>uB S S' _ b name cs v W h0 h1 h2 hB hok hd hc);have hen:=fun (h0:dQ b name v=0) W (h:aA S' W cs v)=>MN S' (aD v) cs v W (Nat.le_refl _) h hok (by
  obtain⟨hg,hn,_,ht⟩:=nX h0;obtain⟨t,_,e2,hm,_,he⟩:=gK hn;rw[e2] at ht;exact KR hg (aD v) v t (Nat.le_refl _) (bq hg hm he) ht)
 obtain⟨tf,htf⟩:=exE (dQ b name v);obtain⟨ev,hev⟩:=exE (dI v);rw[←htf] at Hty Hr hen;rw[←hev] at hen Hr;have Hen:=hidL hen;have HB:=hidL hb0;have HW:=hidL hW;have HV:=hidL hr;obtain⟨kind,n,s,ids,l⟩:=v;obtain⟨I1,d1,I2,d2,rfl,_,_⟩:=hr.parts;obtain⟨x1,x2,x3⟩:=bY w [.slice A b.length cap] (VV kind n s I1 ids d1 I2 l d2) 38 65;clear hb0 hr hW hB hok hd hc hrr htf hev hen;go_enter func43,ntmps43;go_wp2_with fail;refine(Hty.out _ ((RSl.fair ah.fair).below HB.out x3) (aA.fair.below HV.out x3) (HW.out.below x3)).mono ?_;rintro e w1 ⟨rfl,hb1⟩;have hw1:=aa x3 hb1 x3.size;have y2:=x2.below hb1 x2.lt;obtain⟨u0,u1,u2,u3,u4⟩:=y2.five;have hl2:=y2.lt;clear hb1 x1 x2 x3
 by_cases ht0:tf=0
 ·subst ht0;have Hc:=hidL (Hen.out rfl);rw[if_neg (by simp)] at Hr;go_wp2_with fail;refine(Hc.out _ (aA.fair.below HV.out hw1)).mono ?_;rintro e w2 ⟨rfl,hb2⟩;obtain⟨er,ec⟩:=ev;dsimp only;go_wp2_with fail
  go_ret2
  rw[Hr.out];exact⟨rfl,aa hw1 hb2 hw1.size⟩
 ·have htb:(tf != 0)=true:=by simpa using ht0
  rw[if_pos ht0] at Hr;clear ht0;go_wp2_with fail
  go_ret2
  rw[Hr.out];exact⟨rfl,hw1⟩
end
end Go.Proofs.YtknnhpkjgnkcdaaGreatDoor
