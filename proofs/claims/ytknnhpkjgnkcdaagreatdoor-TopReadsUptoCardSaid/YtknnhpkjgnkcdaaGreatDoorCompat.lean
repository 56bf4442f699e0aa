/- Walks and plain laws. -/
import Derived.Test.YtknnhpkjgnkcdaaGreatDoorTyped
import Derived.Test.YtknnhpkjgnkcdaaGreatDoorMwalks
set_option linter.all false
set_option maxRecDepth 100000
set_option maxHeartbeats 8000000
namespace Go.Proofs.YtknnhpkjgnkcdaaGreatDoor
section
open Go.Proofs.Tryz
open Go.RowKit
def pM (p:bQ):List Value:=[.string p.w,.string p.r,O p.from_,O p.id]
def nU:Rel bQ:=dS pM
theorem nU.fair:Fair nU:=dS.fair _
theorem aiv:dK prog 180 183 4 48:=dK.mk (z:=.agg #[.string .empty,.string .empty,O 0,O 0]) underlying180 (by decide) (by decide) (by kernel_rfl) rfl
theorem ah.Uu {S:Nat→Prop}{w:World}{n:ByteArray}{e:Bool}{v1 v2 v3:Value}{t:ax}(h:ah S w [.string n,.bool e,v1,v2,v3] t):RSl 5 56 aH S w [v1] t.fields∧RSl 1 8 aQ S w [v2] t.gone∧RSl 2 24 aO S w [v3] t.items:=by
 obtain⟨vf,vg,vi,h,a,b,c⟩:=h;simp only[List.cons.injEq,and_true] at h;obtain⟨_,_,rfl,rfl,rfl⟩:=h;exact⟨a,b,c⟩
def aaa (i:Nat)(l:List bQ)(f:ay):Option ay→List bQ
 | none=>l
 | some g=>if f.kind=5∧g.kind=5∧vP l f.type g.type=false then l++[⟨f.type,g.type,i,f.id⟩] else l
theorem Own.one {α:Type}{base e sz:Nat}{R:Rel α}{w:World}{g:Nat}{cs:List Value}{x:α}(hb:Box w g e cs)(hg:base≤g)(hl:cs.length=sz)(hr:R NoT w cs x):Own base e sz R NoT w (.slice (some ⟨g,0,none⟩) 1 1) [x]:=by
 refine⟨[cs],⟨by simp[hl],.inr ⟨g,1,cs.toArray,rfl,hg,hb,Nat.le_refl _,by decide,by simp[hl],by simpa using List.take_of_length_le (Nat.le_of_eq hl)⟩⟩,rfl,fun _ _ h=>h,fun k y c hy hc=>?_⟩;cases k with
 | zero=>simp at hy hc;subst hy hc;exact⟨hl,hr⟩
 | succ k=>simp at hy
theorem XM (p:bQ)(F G:Nat)(ft gt:ByteArray)(w:World)(hf:w.cell? ⟨F,2,none⟩=some (.string ft))(hg:w.cell? ⟨G,2,none⟩=some (.string gt)) :
  Calls prog 154 #[.agg (pM p).toArray,.pointer (some ⟨F,0,none⟩),.pointer (some ⟨G,0,none⟩)] w (Ret w (.bool (decide (p.w=ft∧p.r=gt)))):=by
 have hFl:F<w.heap.size:=World.block_lt_of_cell? w _ hf;have hGl:G<w.heap.size:=World.block_lt_of_cell? w _ hg;obtain⟨pw,pr,pf,pi⟩:=p;dsimp only[pM];have hb:=(Below.here w).alloc (Nat.le_refl _) (.cells [Value.string pw,.string pr,O pf,O pi].toArray 183)
 by_cases h1:pw=ft
 ·have e1:(pw.toList==ft.toList)=true:=by rw[ba_eq];simpa using h1
  by_cases h2:pr=gt
  ·have e2:(pr.toList==gt.toList)=true:=by rw[ba_eq];simpa using h2
   rw[decide_eq_true (show pw=ft∧pr=gt from⟨h1,h2⟩)];clear h1 h2;go_enter func154,ntmps154;go_wp2;go_ret;exact⟨rfl,hb⟩
  ·have e2:(pr.toList==gt.toList)=false:=by rw[ba_eq];simpa using h2
   rw[decide_eq_false (fun h:pw=ft∧pr=gt=>h2 h.2)];clear h1 h2;go_enter func154,ntmps154;go_wp2;go_ret;exact⟨rfl,hb⟩
 ·have e1:(pw.toList==ft.toList)=false:=by rw[ba_eq];simpa using h1
  rw[decide_eq_false (fun h:pw=ft∧pr=gt=>h1 h.1)];clear h1;go_enter func154,ntmps154;go_wp2;go_ret;exact⟨rfl,hb⟩
theorem Wn (S:Nat→Prop)(v:Value)(l:List bQ)(F G:Nat)(ft gt:ByteArray)(w:World)(hl:RSl 4 48 nU S w [v] l)(hf:w.cell? ⟨F,2,none⟩=some (.string ft))(hg:w.cell? ⟨G,2,none⟩=some (.string gt)) :
  Calls prog 187 #[v,.func (.func 154) #[] #[.pointer (some ⟨F,0,none⟩),.pointer (some ⟨G,0,none⟩)]] w (abe (vP l ft gt) w):=by
 obtain⟨A,cap,rfl,hlc,hlb⟩:=hl.form;have HL:=hidL hl;have hFw:=World.block_lt_of_cell? w _ hf;have hGw:=World.block_lt_of_cell? w _ hg;have HF:=hidL hf;have HG:=hidL hg;clear hl hf hg;go_enter func187,ntmps187;go_wp2_with fail;go_loopw [8] (fun i wr=>∃ k:Nat,i=O k∧k≤l.length∧Hid (vP (l.drop k) ft gt=vP l ft gt)∧Below w.heap.size w wr) (fun i _=>l.length-(intOf i).toNat)
 case atStart=>exact⟨0,rfl,by omega,rfl,Below.refl _ _⟩
 case round =>
  obtain⟨k,rfl,hk,he,hb⟩:=hrel
  by_cases hlt:k<l.length
  ·obtain⟨g,o,es,rfl,hS,hgl,hes,hr,hc0⟩:=HL.out.at_ hlt;have hc:=hc0.keep (az.of_below hb) hS;have hgw:g<wr.heap.size:=Nat.lt_of_lt_of_le hgl hb.size;obtain⟨x,hye⟩:=exE (l[k]);have hd:vP (l.drop k) ft gt=(decide (x.w=ft∧x.r=gt)||vP (l.drop (k+1)) ft gt):=by
    rw[List.drop_eq_getElem_cons hlt,←hye];unfold vP;rw[List.any_cons]
   rw[←hye] at hr;have hr':es=pM x:=hr;subst hr';have hone:=hidL (XM x F G ft gt wr (by rw[World.cell?_of_block (w:=w) (hb.block _ hFw)];exact HF.out) (by rw[World.cell?_of_block (w:=w) (hb.block _ hGw)];exact HG.out));obtain⟨xw,xr,xf,xi⟩:=x;have q0:=hc.a0 rfl;have q1:=hc.at_ 1 rfl;have q2:=hc.at_ 2 rfl;have q3:=hc.at_ 3 rfl;have He:=hidL (he.out.symm.trans hd);dsimp only[pM] at hone;dsimp only at He;have e1:IntKind.i64.wrap ((k:Int)+1)=(k:Int)+1:=IntWalk.i64_in _ (by omega);obtain⟨bb,hbb⟩:=exE (decide (xw=ft∧xr=gt));rw[←hbb] at hone He;clear hr hc hc0 hye hes hd he hbb;go_wp2_with fail;refine hone.out.mono ?_;rintro e w1 ⟨rfl,hb1⟩;cases bb with
   | true =>
    go_wp2;go_ret;exact⟨_,rfl,by show _=_;rw[He.out];simp,aa hb hb1 hb.size⟩
   | false =>
    have He2:Hid (vP (l.drop (k+1)) ft gt=vP l ft gt):=by show _=_;rw[He.out];simp
    go_wp2;go_roundw
    case rel=>exact⟨k+1,by simp,by omega,He2,aa hb hb1 hb.size⟩
    case measure=>simp[intOf];omega
  ·have hd:l.drop k=[]:=List.drop_eq_nil_of_le (by omega);rw[hd] at he;have He:=hidL he.out;clear he;go_wp2;go_ret;exact⟨_,rfl,by show _=_;rw[←He.out];rfl,hb⟩
theorem Yv (S:Nat→Prop)(v:Value)(l:List bQ)(F G:Nat)(ft gt:ByteArray)(w:World)(hl:RSl 4 48 nU S w [v] l)(hf:LL w F 2 (.string ft))(hg:LL w G 2 (.string gt)) :
  Calls prog 153 #[v,.func (.func 154) #[] #[.pointer (some ⟨F,0,none⟩),.pointer (some ⟨G,0,none⟩)]] w (Ret w (.bool (vP l ft gt))):=by
 have H:=hidL (Wn S v l F G ft gt w hl hf hg);clear hl hf hg;go_enter func153,ntmps153;go_wp2_with fail;refine H.out.mono ?_;rintro e w1 ⟨i,rfl,hi,hb1⟩;go_wp2;go_ret;exact⟨kr (by first | exact hi.out | (rw[←hi.out];simp)),hb1⟩
theorem Vo (S:Nat→Prop)(vw vr:Value)(bw br:av)(name:ByteArray)(w:World)(hb1:RSl 5 96 ah S w [vw] bw)(hb2:RSl 5 96 ah S w [vr] br)(hw:aB bw=0)(hr:aB br=0)(hn1:dW bw name=false)(hn2:dW br name=false) :
  Calls prog 112 #[.agg #[vw],.agg #[vr],.string name] w (fun e w'=>∃ v,e=.returned v∧RSl 4 48 nU (New w) w' [v] (gu bw br name)∧Below w.heap.size w w'):=by
 obtain⟨AW,cw,rfl,-,-⟩:=hb1.form;obtain⟨AR,cr,rfl,-,-⟩:=hb2.form;obtain⟨P,hP⟩:=exE (gu bw br name);rw[←hP];have HP:=hidL hP;have H1:=hidL ((RSl.fair ah.fair).old hb1);have H2:=hidL ((RSl.fair ah.fair).old hb2);have HG:=hidL (show aB bw=0∧aB br=0 from⟨hw,hr⟩);have HN:=hidL (iK hn1 hn2);obtain⟨x1,x2,x3⟩:=bY w [.slice AW bw.length cw] [.slice AR br.length cr] 38 38;have y1:=x1.alloc (.cells [.string name,.string name,O (-1),O 0].toArray 183);have y2:=x2.alloc (.cells [.string name,.string name,O (-1),O 0].toArray 183);have y3:=x3.alloc x3.size (.cells [.string name,.string name,O (-1),O 0].toArray 183);have y4:=Box.Cq x3 183 [.string name,.string name,O (-1),O 0];have hOw:=Own.one (base:=w.heap.size) (sz:=4) (R:=nU) (x:=⟨name,name,-1,0⟩) y4 x3.size rfl rfl;simp only[World.size_alloc] at hOw;clear hb1 hb2 hw hr hn1 hn2 hP x1 x2 x3 y4;go_enter func112,ntmps112;go_wp2_with fail;go_loopw [7,8] (fun c7 c8 wr=>∃ (i k:Nat) (l:List bQ),c8=O i∧i≤l.length∧l.length≤16∧Box wr w.heap.size 38 [.slice AW bw.length cw]∧Box wr (w.heap.size+1) 38 [.slice AR br.length cr]∧Own w.heap.size 183 4 nU NoT wr c7 l∧Below w.heap.size w wr∧Hid (i+k=18∧ic bw br l∧P=jF bw br k i l)) (fun _ c8 _=>17-(intOf c8).toNat)
 case atStart=>exact⟨0,18,_,rfl,by simp,by simp,y1,y2,hOw,y3,(show _∧_ from⟨rfl,HN.out,HP.out⟩)⟩
 case round =>
  clear y1 y2 y3 hOw;obtain⟨i,k,l,rfl,hi,hl16,hX,hZ,hO,hG,HI⟩:=hrel;obtain⟨A,cap,rfl,hlc⟩:=hO.form
  by_cases hlt:i<l.length
  ·--[RND
   obtain⟨gl,hA,hglb,hgll⟩:=hO.qR (by omega);subst hA;obtain⟨p,hp⟩:=exE (l[i]);have Hp:=hidL hp;obtain⟨cs0,-,hcs0,hli⟩:=hO.cells hlt;rw[←hp] at hcs0;have e0:cs0=pM p:=hcs0;subst e0;have hpm:p∈l:=by rw[hp];exact List.getElem_mem hlt
   have Hpf:=hidL (HI.out.2.1.2 p hpm);obtain⟨pw,pr,pf,pi⟩:=p;have l0:LL wr gl (i*4) (.string pw):=by have:=hli.at_ 0 rfl;simpa using this
   have l1:=hli.at_ 1 rfl;have z1:=hX.cell 0;have z2:=hZ.cell 0;have hlt':(i:Int)<(l.length:Int):=by omega
   have hnz:(0:Int)≤(i:Int):=by omega
   have e1:IntKind.i64.wrap ((i:Int)+1)=(i:Int)+1:=IntWalk.i64_in _ (by omega);have hws:w.heap.size≤wr.heap.size:=hG.size;obtain⟨tt,htt⟩:=exE ((aM bw pw).getD .zero);have Htt:=hidL htt;have hfd:=hidL (fun W (h:Below wr.heap.size wr W)=>gH (Old w) _ bw pw W ((RSl.fair ah.fair).below H1.out (aa hG h hG.size)));have HS:=hidL (fun W (h:Below wr.heap.size wr W)=>show (fun W'=>LL W' w.heap.size 0 (.slice AW bw.length cw)∧LL W' gl (i*4) (.string pw)) W from⟨(hX.below h hX.lt).cell 0,(World.cell?_of_block (h.block _ hgll)).trans l0⟩);clear hp hcs0 hli hpm htt;go_upto_region 5 with fail;go_cut [9] from 27 to 36 (fun q W1=>∃ (Y:Nat) (A1:Option Addr) (k1:Nat) (A2:Option Addr) (k2:Nat) (A3:Option Addr) (k3:Nat),q=.pointer (some ⟨Y,0,none⟩)∧wr.heap.size≤Y∧Box W1 Y 53 (TT tt A1 k1 A2 k2 A3 k3)∧RowKit.Below wr.heap.size wr W1∧ah (Old w) W1 (TT tt A1 k1 A2 k2 A3 k3) tt)
   case first =>
    have hS:=HS.out _ (au (Below.here wr));have hdr:=hws;have hY0:=hws;refine aJ (fun W'=>LL W' w.heap.size 0 (.slice AW bw.length cw)∧LL W' gl (i*4) (.string pw)) (fun i=>i != 11&&i != 12) (by kernel_rfl) ?_;have hBd:=au (Below.here wr);clear hX hZ hO hdr;generalize wr.drew=Wd at hS hBd ⊢;apply tkP 0 hS;apply ppP 1;apply ppP 2;apply ppP 3;apply ppP 4;apply tkP 5 hS
    try simp only[pu]
    refine iI (i:=6) (j:=10) rfl rfl (by kernel_rfl) (fun K hK=>?f1) (fun K hK=>?s1)
    case' f1 =>
     go_simp;refine(hfd.out Wd hBd).mono ?_;rintro e w5 ⟨cs,rfl,hrt,hb5⟩;rw[←Htt.out] at hrt;obtain⟨A1,k1,A2,k2,A3,k3,rfl,-,-,-⟩:=hrt.parts;have hB5:=aa hBd hb5 hBd.size;replace hS:(fun W'=>LL W' w.heap.size 0 (.slice AW bw.length cw)∧LL W' gl (i*4) (.string pw)) w5:=HS.out w5 hB5;refine hK.out _ _ (fun _ _=>hS) ?_
     try simp only[pu]
     apply ppP 7;apply ppP 8;apply ppP 9
     try simp only[pu]
     refine ang 10 (fun K hK=>?_);go_simp;have hY:=Box.new w5 53 [E0,.bool false,Z0,Z0,Z0];have hB6:=hB5.alloc hB5.size (.cells [E0,.bool false,Z0,Z0,Z0].toArray 53);have hYd:=hB5.size;have Hrt:=hidL (ah.fair.below (ah.fair.below hrt hb5) ((Below.here w5).alloc (Nat.le_refl _) (.cells [E0,.bool false,Z0,Z0,Z0].toArray 53)));replace hS:(fun W'=>LL W' w.heap.size 0 (.slice AW bw.length cw)∧LL W' gl (i*4) (.string pw)) (w5.alloc (.cells [E0,.bool false,Z0,Z0,Z0].toArray 53)):=HS.out _ hB6;clear hb5 hrt hB5 hBd;refine hK.out _ _ (fun _ _=>hS) ?_
     try simp only[pu]
     generalize w5.heap.size=Y at hY hYd ⊢;generalize (World.alloc w5 _)=w6 at hY hB6 hS Hrt ⊢
    case' s1 =>
     go_simp;have hY:=Box.new Wd 53 [E0,.bool false,Z0,Z0,Z0];have hB5:=hBd.alloc hBd.size (.cells [E0,.bool false,Z0,Z0,Z0].toArray 53);replace hS:(fun W'=>LL W' w.heap.size 0 (.slice AW bw.length cw)∧LL W' gl (i*4) (.string pw)) (Wd.alloc (.cells [E0,.bool false,Z0,Z0,Z0].toArray 53)):=HS.out _ hB5;refine hK.out _ _ (fun _ _=>hS) ?_
     try simp only[pu]
     have hYd:=hBd.size;generalize Wd.heap.size=Y at hY hYd ⊢;generalize (World.alloc Wd _)=w4 at hY hB5 hS ⊢;refine ang 6 (fun K hK=>?_);go_simp;refine(hfd.out w4 hB5).mono ?_;rintro e w6 ⟨cs,rfl,hrt,hb6⟩;rw[←Htt.out] at hrt;obtain⟨A1,k1,A2,k2,A3,k3,rfl,-,-,-⟩:=hrt.parts;replace hY:=hY.below hb6 hY.lt;have hB6:=aa hB5 hb6 hB5.size;have Hrt:=hidL (ah.fair.below hrt hb6);replace hS:(fun W'=>LL W' w.heap.size 0 (.slice AW bw.length cw)∧LL W' gl (i*4) (.string pw)) w6:=HS.out _ hB6;clear hb6 hrt hB5 hBd;refine hK.out _ _ (fun _ _=>hS) ?_
     try simp only[pu]
     apply ppP 7;apply ppP 8;apply ppP 9
     try simp only[pu]
    all_goals
     obtain⟨c0,c1,c2,c3,c4,f0,f1,f2,f3,f4,ly⟩:=(hY).rr5;have hB7:=below_setCells hYd (TT tt A1 k1 A2 k2 A3 k3) 0 _ hB6;have hY7:=hY.setCells (TT tt A1 k1 A2 k2 A3 k3) rfl;have Hrt7:=hidL (ah.fair.keep Hrt.out (az.setCells (S:=Old w) (g:=Y) (by show ¬ Y<w.heap.size;have:=hws;omega) (TT tt A1 k1 A2 k2 A3 k3) 0 w6));refine ang 11 (fun K hK=>?_);go_simp;refine hK.out _ _ nay ?_
     try simp only[pu]
     change fK _ _ _ _ _ _ _ _ _ (Go.Proofs.YtknnhpkjgnkcdaaGreatDoor.setCells w6 Y 0 (TT tt A1 k1 A2 k2 A3 k3));clear c0 c1 c2 c3 c4 f0 f1 f2 f3 f4 ly hB6 hY hS;generalize (Go.Proofs.YtknnhpkjgnkcdaaGreatDoor.setCells w6 Y 0 _)=w7 at hB7 hY7 Hrt7 ⊢;refine ang 12 (fun K hK=>?_);go_simp;refine hK.out _ _ nay ?_
     try simp only[pu]
     refine anf ?_ _;go_wp2;go_meet
     case rel=>exact⟨Y,A1,k1,A2,k2,A3,k3,rfl,hYd,hY7,hB7,Hrt7.out⟩
   case rest =>
    obtain⟨Y1,B1,j1,B2,j2,B3,j3,rfl,hY1d,hY1,hc1,hr1⟩:=hcut;obtain⟨t1,ht1⟩:=exE tt;subst ht1;have Ht1:=Htt;have hO1:=hO.below nU.fair hc1;have hX1:=hX.below hc1 hX.lt;have hZ1:=hZ.below hc1 hZ.lt;have hG1:=aa hG hc1 hG.size;have hgl1:gl<wc.heap.size:=Nat.lt_of_lt_of_le hgll hc1.size;have l1':LL wc gl (i*4+1) (.string pr):=(World.cell?_of_block (hc1.block _ hgll)).trans l1;clear Htt hfd HS hX hZ hO hG hY1d hws hgll l0 l1 z1 z2 hc1;obtain⟨wr,hwr⟩:=exE wc;subst hwr;have hws:w.heap.size≤wr.heap.size:=hG1.size;have z2:=hZ1.cell 0;obtain⟨tt,htt⟩:=exE ((aM br pr).getD .zero);have Htt:=hidL htt;have hfd:=hidL (fun W (h:Below wr.heap.size wr W)=>gH (Old w) _ br pr W ((RSl.fair ah.fair).below H2.out (aa hG1 h hG1.size)));have HS:=hidL (fun W (h:Below wr.heap.size wr W)=>show (fun W'=>LL W' (w.heap.size+1) 0 (.slice AR br.length cr)∧LL W' gl (i*4+1) (.string pr)) W from⟨(hZ1.below h hZ1.lt).cell 0,(World.cell?_of_block (h.block _ hgl1)).trans l1'⟩);clear htt;go_upto_region 6 with fail;go_cut [11] from 37 to 46 (fun q W1=>∃ (Y:Nat) (A1:Option Addr) (k1:Nat) (A2:Option Addr) (k2:Nat) (A3:Option Addr) (k3:Nat),q=.pointer (some ⟨Y,0,none⟩)∧wr.heap.size≤Y∧Box W1 Y 53 (TT tt A1 k1 A2 k2 A3 k3)∧RowKit.Below wr.heap.size wr W1∧ah (Old w) W1 (TT tt A1 k1 A2 k2 A3 k3) tt)
    case first =>
     have hS:=HS.out _ (au (Below.here wr));refine aJ (fun W'=>LL W' (w.heap.size+1) 0 (.slice AR br.length cr)∧LL W' gl (i*4+1) (.string pr)) (fun i=>i != 11&&i != 12) (by kernel_rfl) ?_;have hBd:=au (Below.here wr);clear hX1 hZ1 hO1 hY1 hr1;generalize wr.drew=Wd at hS hBd ⊢;apply tkP 0 hS;apply ppP 1;apply ppP 2;apply ppP 3;apply ppP 4;apply tkP 5 hS
     try simp only[pu]
     refine iI (i:=6) (j:=10) rfl rfl (by kernel_rfl) (fun K hK=>?f2) (fun K hK=>?s2)
     case' f2 =>
      go_simp;refine(hfd.out Wd hBd).mono ?_;rintro e w5 ⟨cs,rfl,hrt,hb5⟩;rw[←Htt.out] at hrt;obtain⟨A1,k1,A2,k2,A3,k3,rfl,-,-,-⟩:=hrt.parts;have hB5:=aa hBd hb5 hBd.size;replace hS:(fun W'=>LL W' (w.heap.size+1) 0 (.slice AR br.length cr)∧LL W' gl (i*4+1) (.string pr)) w5:=HS.out w5 hB5;refine hK.out _ _ (fun _ _=>hS) ?_
      try simp only[pu]
      apply ppP 7;apply ppP 8;apply ppP 9
      try simp only[pu]
      refine ang 10 (fun K hK=>?_);go_simp;have hY:=Box.new w5 53 [E0,.bool false,Z0,Z0,Z0];have hB6:=hB5.alloc hB5.size (.cells [E0,.bool false,Z0,Z0,Z0].toArray 53);have hYd:=hB5.size;have Hrt:=hidL (ah.fair.below (ah.fair.below hrt hb5) ((Below.here w5).alloc (Nat.le_refl _) (.cells [E0,.bool false,Z0,Z0,Z0].toArray 53)));replace hS:(fun W'=>LL W' (w.heap.size+1) 0 (.slice AR br.length cr)∧LL W' gl (i*4+1) (.string pr)) (w5.alloc (.cells [E0,.bool false,Z0,Z0,Z0].toArray 53)):=HS.out _ hB6;clear hb5 hrt hB5 hBd;refine hK.out _ _ (fun _ _=>hS) ?_
      try simp only[pu]
      generalize w5.heap.size=Y at hY hYd ⊢;generalize (World.alloc w5 _)=w6 at hY hB6 hS Hrt ⊢
     case' s2 =>
      go_simp;have hY:=Box.new Wd 53 [E0,.bool false,Z0,Z0,Z0];have hB5:=hBd.alloc hBd.size (.cells [E0,.bool false,Z0,Z0,Z0].toArray 53);replace hS:(fun W'=>LL W' (w.heap.size+1) 0 (.slice AR br.length cr)∧LL W' gl (i*4+1) (.string pr)) (Wd.alloc (.cells [E0,.bool false,Z0,Z0,Z0].toArray 53)):=HS.out _ hB5;refine hK.out _ _ (fun _ _=>hS) ?_
      try simp only[pu]
      have hYd:=hBd.size;generalize Wd.heap.size=Y at hY hYd ⊢;generalize (World.alloc Wd _)=w4 at hY hB5 hS ⊢;refine ang 6 (fun K hK=>?_);go_simp;refine(hfd.out w4 hB5).mono ?_;rintro e w6 ⟨cs,rfl,hrt,hb6⟩;rw[←Htt.out] at hrt;obtain⟨A1,k1,A2,k2,A3,k3,rfl,-,-,-⟩:=hrt.parts;replace hY:=hY.below hb6 hY.lt;have hB6:=aa hB5 hb6 hB5.size;have Hrt:=hidL (ah.fair.below hrt hb6);replace hS:(fun W'=>LL W' (w.heap.size+1) 0 (.slice AR br.length cr)∧LL W' gl (i*4+1) (.string pr)) w6:=HS.out _ hB6;clear hb6 hrt hB5 hBd;refine hK.out _ _ (fun _ _=>hS) ?_
      try simp only[pu]
      apply ppP 7;apply ppP 8;apply ppP 9
      try simp only[pu]
     all_goals
      obtain⟨c0,c1,c2,c3,c4,f0,f1,f2,f3,f4,ly⟩:=(hY).rr5;have hB7:=below_setCells hYd (TT tt A1 k1 A2 k2 A3 k3) 0 _ hB6;have hY7:=hY.setCells (TT tt A1 k1 A2 k2 A3 k3) rfl;have Hrt7:=hidL (ah.fair.keep Hrt.out (az.setCells (S:=Old w) (g:=Y) (by show ¬ Y<w.heap.size;have:=hws;omega) (TT tt A1 k1 A2 k2 A3 k3) 0 w6));refine ang 11 (fun K hK=>?_);go_simp;refine hK.out _ _ nay ?_
      try simp only[pu]
      change fK _ _ _ _ _ _ _ _ _ (Go.Proofs.YtknnhpkjgnkcdaaGreatDoor.setCells w6 Y 0 (TT tt A1 k1 A2 k2 A3 k3));clear c0 c1 c2 c3 c4 f0 f1 f2 f3 f4 ly hB6 hY hS;generalize (Go.Proofs.YtknnhpkjgnkcdaaGreatDoor.setCells w6 Y 0 _)=w7 at hB7 hY7 Hrt7 ⊢;refine ang 12 (fun K hK=>?_);go_simp;refine hK.out _ _ nay ?_
      try simp only[pu]
      refine anf ?_ _;go_wp2;go_meet
      case rel=>exact⟨Y,A1,k1,A2,k2,A3,k3,rfl,hYd,hY7,hB7,Hrt7.out⟩
    case rest =>
     obtain⟨Y2,C1,m1,C2,m2,C3,m3,rfl,hY2d,hY2,hc2,hr2⟩:=hcut;have hO2:=hO1.below nU.fair hc2;have hX2:=hX1.below hc2 hX1.lt;have hZ2:=hZ1.below hc2 hZ1.lt;have hG2:=aa hG1 hc2 hG1.size;have hYb:=hY1.below hc2 hY1.lt;have hr1':=ah.fair.below hr1 hc2;clear hO1 hX1 hZ1 hG1 hY1 hr1 hfd HS hc2 z2 hgl1 l1' hws hY2d;obtain⟨V,hV⟩:=exE wc;subst hV;have hwV:w.heap.size≤V.heap.size:=hG2.size;have hFl:=(ah.Uu hr1').1;have HFl:=hidL (fun W (h:Below V.heap.size V W)=>(RSl.fair aH.fair).below hFl h);have Hr2:=hidL (fun W (h:Below V.heap.size V W)=>ah.fair.below hr2 h);have y12:LL V Y1 2 (.slice B1 t1.fields.length j1):=hYb.cell 2;have y1l:=hYb.lt;have ht1m:t1∈bw:=by rw[Ht1.out];exact dB Hpf.out.1
     have httm:tt∈br:=by rw[Htt.out];exact dB Hpf.out.2
     have Hmem:=hidL (show t1∈bw∧tt∈br from⟨ht1m,httm⟩);clear hr1' hFl hr2 ht1m httm;go_wp2_with fail;clear y12 y1l;go_loopw [7,50] (fun c7 c50 wr=>∃ (j:Nat) (l':List bQ),c50=O j∧j≤t1.fields.length∧l'.length≤16∧Box wr w.heap.size 38 [.slice AW bw.length cw]∧Box wr (w.heap.size+1) 38 [.slice AR br.length cr]∧Box wr Y2 53 (TT tt C1 m1 C2 m2 C3 m3)∧Own w.heap.size 183 4 nU NoT wr c7 l'∧Below w.heap.size w wr∧(az (Old w) V wr∧V.heap.size≤wr.heap.size)∧Hid (l'=(t1.fields.take j).foldl (dA i tt) l∧ic bw br l')) (fun _ c50 _=>t1.fields.length-(intOf c50).toNat)
     case atStart=>exact⟨0,l,rfl,Nat.zero_le _,hl16,hX2,hZ2,hY2,hO2,hG2,⟨az.refl _ _,Nat.le_refl _⟩,(show _∧_ from⟨rfl,HI.out.2.1⟩)⟩
     case round =>
      clear hX2 hZ2 hY2 hO2 hG2 hYb;obtain⟨j,l',rfl,hj,hl2,hX,hZ,hY,hO,hG,hKV,HJ⟩:=hrel
      by_cases hjl:j<t1.fields.length
      ·--[FLD
       have hjl':(j:Int)<(t1.fields.length:Int):=by omega
       have hjz:(0:Int)≤(j:Int):=by omega
       have hfz:t1.fields.length≤100:=by
        cases he:t1.enum with
        | true=>have:=(fE HG.out.1 Hmem.out.1 he).2.2.2.1;omega
        | false=>have:=(bq HG.out.1 Hmem.out.1 he).1;omega
       have e2:IntKind.i64.wrap ((j:Int)+1)=(j:Int)+1:=IntWalk.i64_in _ (by omega);have hFl:=(RSl.fair aH.fair).keep (HFl.out V (Below.here V)) hKV.1;obtain⟨gf,of,es,rfl,hSf,hgf,-,hre,hcf⟩:=hFl.at_ hjl;obtain⟨f,hf⟩:=exE (t1.fields[j]);rw[←hf] at hre;have hes:es=aI f:=hre;subst hes;have hfm:f∈t1.fields:=by rw[hf];exact List.getElem_mem hjl
       have hstep:Hid ((t1.fields.take (j+1)).foldl (dA i tt) l=dA i tt l' f):=by
        show _=_;rw[List.take_succ_eq_append_getElem hjl,List.foldl_append,←HJ.out.1,←hf];rfl
       have hokst:Hid (ic bw br (dA i tt l' f)):=(show ic _ _ _ from Ta HJ.out.2 (fun h5=>zg HG.out.1 Hmem.out.1 hfm (by omega)) (fun g hg h5=>zg HG.out.2 Hmem.out.2 (rE hg) (by omega)));have hlen:=sixteen HG.out.1 HG.out.2 hokst.out;obtain⟨rg,hrg⟩:=exE (aC tt f.id);have hfo:=hidL (fun W (h:az (Old w) V W)=>qD (Old w) _ tt f.id W (ah.fair.keep (Hr2.out V (Below.here V)) h));rw[←hrg] at hfo;have Hps:Hid (dA i tt l' f=aaa i l' f rg):=by show _=_;rw[hrg];rfl
       obtain⟨fi,fn,ft,fk,fr⟩:=f;dsimp only at hfo Hps;have r0:=hcf.a0 rfl;have r1:=hcf.at_ 1 rfl;have r2:=hcf.at_ 2 rfl;have r3:=hcf.at_ 3 rfl;have r4:=hcf.at_ 4 rfl;have hF:=Box.new wr 55 (FF fi fn ft fk fr);have hX3:=hX.alloc (.cells (FF fi fn ft fk fr).toArray 55);have hZ3:=hZ.alloc (.cells (FF fi fn ft fk fr).toArray 55);have hY3:=hY.alloc (.cells (FF fi fn ft fk fr).toArray 55);have hO3:=hO.alloc nU.fair (.cells (FF fi fn ft fk fr).toArray 55);have hG3:=hG.alloc hG.size (.cells (FF fi fn ft fk fr).toArray 55);have hK3:=hKV.1.trans (az.alloc (Old w) wr (.cells (FF fi fn ft fk fr).toArray 55));have hs3:V.heap.size≤(wr.alloc (.cells (FF fi fn ft fk fr).toArray 55)).heap.size:=hK3.1;clear hFl hSf hre hcf hf hfm hrg hX hZ hY hO hG hKV;go_upto_region 10 with fail;clear r0 r1 r2 r3 r4 hgf;generalize wr.heap.size=F at hF ⊢;generalize (World.alloc wr _)=w3 at hF hX3 hZ3 hY3 hO3 hG3 hK3 hs3 ⊢;obtain⟨y0,y1,y2,y3,y4⟩:=hY3.five;have f0:LL w3 F 0 (O fi):=hF.cell 0;have fl:=hF.lt;have yl:=hY3.lt;go_wp2_with fail;refine(hfo.out w3 hK3).mono ?_;rintro e w4 ⟨rfl,hb4⟩;have hF4:=hF.below hb4 hF.lt;have hX4:=hX3.below hb4 hX3.lt;have hZ4:=hZ3.below hb4 hZ3.lt;have hY4:=hY3.below hb4 hY3.lt;have hO4:=hO3.below nU.fair hb4;have hG4:=aa hG3 hb4 hG3.size;have hK4:=hK3.trans (az.of_below hb4 |>.mono (T:=Old w) fun g h=>h);have hfk:=hF4.cell 3;have hft:=hF4.cell 2;have hfi:=hF4.cell 0;have hF4l:=hF4.lt;clear hF hX3 hZ3 hY3 hO3 hG3 hK3 hs3 hb4 y0 y1 y2 y3 y4 f0 fl yl;cases rg with
       | none =>
        simp only[Option.getD_none,Option.isSome_none];have hX5:=hX4.alloc (.cells (aI ay.zero).toArray 55);have hZ5:=hZ4.alloc (.cells (aI ay.zero).toArray 55);have hY5:=hY4.alloc (.cells (aI ay.zero).toArray 55);have hO5:=hO4.alloc nU.fair (.cells (aI ay.zero).toArray 55);have hG5:=hG4.alloc hG4.size (.cells (aI ay.zero).toArray 55);have hK5:=hK4.trans (az.alloc (Old w) w4 (.cells (aI ay.zero).toArray 55));have HJ2:Hid (l'=(t1.fields.take (j+1)).foldl (dA i tt) l∧ic bw br l'):=(show _∧_ from⟨by rw[hstep.out,Hps.out];rfl,HJ.out.2⟩);clear hX4 hZ4 hY4 hO4 hG4 hK4;dsimp only[aI,ay.zero] at hX5 hZ5 hY5 hO5 hG5 hK5 ⊢;go_wp2;go_roundw
        case rel=>exact⟨j+1,l',by simp,by omega,hl2,hX5,hZ5,hY5,hO5,hG5,⟨hK5,hK5.1⟩,HJ2⟩
        case measure=>go_light;simp[intOf];omega
       | some g =>
        obtain⟨gi,gn,gt,gk,gr⟩:=g;simp only[Option.getD_some,Option.isSome_some];dsimp only[aI];have hX5:=hX4.alloc (.cells (FF gi gn gt gk gr).toArray 55);have hZ5:=hZ4.alloc (.cells (FF gi gn gt gk gr).toArray 55);have hY5:=hY4.alloc (.cells (FF gi gn gt gk gr).toArray 55);have hF5:=hF4.alloc (.cells (FF gi gn gt gk gr).toArray 55);have hO5:=hO4.alloc nU.fair (.cells (FF gi gn gt gk gr).toArray 55);have hG5:=hG4.alloc hG4.size (.cells (FF gi gn gt gk gr).toArray 55);have hK5:=hK4.trans (az.alloc (Old w) w4 (.cells (FF gi gn gt gk gr).toArray 55));have hN5:=Box.new w4 55 (FF gi gn gt gk gr);clear hX4 hZ4 hY4 hO4 hG4 hK4 hF4 hfk hft hfi hF4l;go_upto_region 11 with fail;generalize w4.heap.size=N at hN5 ⊢;generalize (World.alloc w4 _)=w5 at hX5 hZ5 hY5 hF5 hO5 hG5 hK5 hN5 ⊢;have hfk:LL w5 F 3 (O fk):=hF5.cell 3;have hgk:LL w5 N 3 (O gk):=hN5.cell 3;have hFl:=hF5.lt;have hNl:=hN5.lt
        by_cases h1:fk=5
        ·by_cases h2:gk=5
         ·--[FIVE
          subst h1 h2;obtain⟨hb,hhb⟩:=exE (vP l' ft gt);have hhas:=hidL (Yv (fun _=>True) _ l' F N ft gt w5 (hO5.read (by_:=48) nU.fair (fun _ _ _=>trivial) (fun _ _=>trivial) (by omega)) (hF5.cell 2) (hN5.cell 2));rw[←hhb] at hhas;obtain⟨A7,c7,rfl,hc7⟩:=hO5.form;go_wp2_with fail;refine hhas.out.mono ?_;rintro e w6 ⟨rfl,hb6⟩;have hX6:=hX5.below hb6 hX5.lt;have hZ6:=hZ5.below hb6 hZ5.lt;have hY6:=hY5.below hb6 hY5.lt;have hF6:=hF5.below hb6 hF5.lt;have hN6:=hN5.below hb6 hN5.lt;have hO6:=hO5.below nU.fair hb6;have hG6:=aa hG5 hb6 hG5.size;have hK6:=hK5.trans (az.of_below hb6 |>.mono (T:=Old w) fun g h=>h);have hFt:LL w6 F 2 (.string ft):=hF6.cell 2;have hFi:LL w6 F 0 (O fi):=hF6.cell 0;have hNt:LL w6 N 2 (.string gt):=hN6.cell 2;have hFl6:=hF6.lt;have hNl6:=hN6.lt;clear hX5 hZ5 hY5 hF5 hN5 hO5 hG5 hK5 hb6 hfk hgk hFl hNl;cases hb with
          | true =>
           have HJ2:Hid (l'=(t1.fields.take (j+1)).foldl (dA i tt) l∧ic bw br l'):=(show _∧_ from⟨by rw[hstep.out,Hps.out,aaa,if_neg (fun h=>by have:=h.2.2;rw[←hhb] at this;cases this)],HJ.out.2⟩);clear hhb;go_wp2;go_roundw
           case rel=>exact⟨j+1,l',by simp,by omega,hl2,hX6,hZ6,hY6,hO6,hG6,⟨hK6,hK6.1⟩,HJ2⟩
           case measure=>go_light;simp[intOf];omega
          | false =>
           have Hl:Hid (dA i tt l' ⟨fi,fn,ft,5,fr⟩=l'++[⟨ft,gt,i,fi⟩]):=by show _=_;rw[Hps.out,aaa,if_pos ⟨rfl,rfl,hhb.symm⟩]
           have HJ2:Hid (l'++[⟨ft,gt,i,fi⟩]=(t1.fields.take (j+1)).foldl (dA i tt) l∧ic bw br (l'++[⟨ft,gt,i,fi⟩])):=(show _∧_ from⟨by rw[hstep.out,Hl.out],by rw[←Hl.out];exact hokst.out⟩);have hlen2:l'.length+1≤16:=by rw[Hl.out,List.length_append] at hlen;exact hlen
           clear hhb;go_wp2_with (at_builtin;go_must (refine bv _ rfl (.tmp 77) (.tmp 86) rfl aiv nU.fair rfl rfl (hO6.alloc nU.fair _) (Src.one (es:=[.string ft,.string gt,O i,O fi]) (y:=bQ.mk ft gt i fi) rfl (gI.bK rfl) rfl (ik.newAt (by first | rfl | simp[World.setCell]))) (NoT.lt _) ?_ ?_ ?_))
           ·go_light;simp only[List.length_cons,List.length_nil];omega
           ·go_light;simp only[World.size_alloc];have:=hG6.size;omega
           ·intro v7 w7 hO7 hg7 hv7;have hOa:=hO6.alloc nU.fair (.cells #[.string ft,.string gt,O i,O fi] 183);have hX7:=(hX6.alloc (.cells #[.string ft,.string gt,O i,O fi] 183)).grown hg7 (hX6.alloc (.cells #[.string ft,.string gt,O i,O fi] 183) |>.gV hOa (by decide));have hZ7:=(hZ6.alloc (.cells #[.string ft,.string gt,O i,O fi] 183)).grown hg7 (hZ6.alloc (.cells #[.string ft,.string gt,O i,O fi] 183) |>.gV hOa (by decide));have hY7:=(hY6.alloc (.cells #[.string ft,.string gt,O i,O fi] 183)).grown hg7 (hY6.alloc (.cells #[.string ft,.string gt,O i,O fi] 183) |>.gV hOa (by decide));have hG7:=below_grown (hG6.alloc hG6.size (.cells #[.string ft,.string gt,O i,O fi] 183)) hg7 (by simp only[World.size_alloc];have:=hG6.size;omega) (fun g' h=>(hO6.lt h).1);have hK7:=(hK6.trans (az.alloc (Old w) w6 (.cells #[.string ft,.string gt,O i,O fi] 183))).trans (az.bH hg7 (fun k hk h=>by have:=(hO6.lt hk).1;have h':k<w.heap.size:=h;omega));clear hX6 hZ6 hY6 hO6 hG6 hK6 hF6 hN6 hFt hFi hNt hFl6 hNl6 hOa hg7 hv7;have Hlen2:=hidL hlen2;go_wp2;go_roundw
            case rel=>exact⟨j+1,l'++[⟨ft,gt,i,fi⟩],by simp,by omega,by rw[List.length_append];exact Hlen2.out,hX7,hZ7,hY7,hO7,hG7,⟨hK7,hK7.1⟩,HJ2⟩
            case measure=>go_light;simp[intOf];omega
         ·--[NO2
          have HJ2:Hid (l'=(t1.fields.take (j+1)).foldl (dA i tt) l∧ic bw br l'):=(show _∧_ from⟨by rw[hstep.out,Hps.out,aaa,if_neg (fun h=>h2 h.2.1)],HJ.out.2⟩);go_wp2;go_roundw
          case rel=>exact⟨j+1,l',by simp,by omega,hl2,hX5,hZ5,hY5,hO5,hG5,⟨hK5,hK5.1⟩,HJ2⟩
          case measure=>go_light;simp[intOf];omega
        ·--[NO1
         have HJ2:Hid (l'=(t1.fields.take (j+1)).foldl (dA i tt) l∧ic bw br l'):=(show _∧_ from⟨by rw[hstep.out,Hps.out,aaa,if_neg (fun h=>h1 h.1)],HJ.out.2⟩);go_wp2;go_roundw
         case rel=>exact⟨j+1,l',by simp,by omega,hl2,hX5,hZ5,hY5,hO5,hG5,⟨hK5,hK5.1⟩,HJ2⟩
         case measure=>go_light;simp[intOf];omega
      ·--[FEND
       obtain rfl:j=t1.fields.length:=by omega
       have HI2:Hid (i+1+(k-1)=18∧ic bw br l'∧P=jF bw br (k-1) (i+1) l'):=by
        obtain⟨a1,a2,a3⟩:=HI.out;obtain⟨b1,b2⟩:=HJ.out;rw[List.take_length] at b1;refine(show _∧_ from⟨by omega,b2,?_⟩);obtain⟨k',rfl⟩:∃ k',k=k'+1:=⟨k-1,by omega⟩;rw[a3,jF,List.getElem?_eq_getElem hlt,←Hp.out,b1,Nat.add_sub_cancel,Ht1.out,Htt.out];rfl
       have hgrow:i+1≤l'.length:=by
        obtain⟨b1,-⟩:=HJ.out;obtain⟨m,hm⟩:=xP i tt (t1.fields.take t1.fields.length) l;rw[hm] at b1;rw[b1,List.length_append];omega
       have Hgr:=hidL hgrow;clear hj hjl hgrow;go_wp2;go_roundw
       case rel=>exact⟨i+1,k-1,l',by simp,Hgr.out,hl2,hX,hZ,hO,hG,HI2⟩
       case measure=>go_light;have:=Hgr.out;simp[intOf];omega
  ·--[END
   have HPl:Hid (P=l):=by
    show _=_;have h2:=HI.out.2.2;obtain⟨k',rfl⟩:∃ k',k=k'+1:=⟨k-1,by have:=HI.out.1;omega⟩;rw[h2,jF,List.getElem?_eq_none (by omega)]
   have hn:¬ (i:Int)<(l.length:Int):=by omega
   have HRd:=hidL (hO.read (S:=New w) (by_:=48) nU.fair (fun _ h _=>h.elim) (fun k e=>(hO.lt e).1) (by omega));clear hO;go_wp2;go_ret;exact⟨_,rfl,by rw[HPl.out];exact HRd.out,hG⟩
theorem QF (S:Nat→Prop)(vw vr:Value)(bw br:av)(name:ByteArray)(w:World)(hb1:RSl 5 96 ah S w [vw] bw)(hb2:RSl 5 96 ah S w [vr] br)(hW:Words w)(o1:aS bw)(o2:aS br) :
  Calls prog 84 #[.agg #[vw],.agg #[vr],.string name] w (Ret w (O (iH bw br name))):=by
 obtain⟨AW,cw,rfl,-,-⟩:=hb1.form;obtain⟨AR,cr,rfl,-,-⟩:=hb2.form;obtain⟨x1,x2,x3⟩:=bY w [.slice AW bw.length cw] [.slice AR br.length cr] 38 38;have g1:=hidL (fun W (h:Below w.heap.size w W)=>kS S _ bw W ((RSl.fair ah.fair).below hb1 h) (hW.below h) o1);have g2:=hidL (fun W (h:Below w.heap.size w W)=>kS S _ br W ((RSl.fair ah.fair).below hb2 h) (hW.below h) o2);have f1:=hidL (fun W (h:Below w.heap.size w W)=>gH S _ bw name W ((RSl.fair ah.fair).below hb1 h));have f2:=hidL (fun W (h:Below w.heap.size w W)=>gH S _ br name W ((RSl.fair ah.fair).below hb2 h));obtain⟨p,hp⟩:=exE (iH bw br name);have Hp:Hid (p=if aB bw≠0∨aB br≠0 then 1 else if dW bw name=true∨dW br name=true then 3 else 0):=hp;rw[←hp];have z1:=x1.cell 0;have z2:=x2.cell 0;have l1:=x1.lt;have l2:=x2.lt;clear hb1 hb2 hW o1 o2 hp;go_enter func84,ntmps84;go_wp2_with fail;refine(g1.out _ x3).mono ?_;rintro e w1 ⟨rfl,hb1⟩;have y1:=x1.below hb1 x1.lt;have y2:=x2.below hb1 x2.lt;have hG1:=aa x3 hb1 x3.size;clear z1 z2 l1 l2 x1 x2 x3 hb1;have z1:=y1.cell 0;have z2:=y2.cell 0;have l1:=y1.lt;have l2:=y2.lt;obtain⟨a,ha⟩:=exE (aB bw);obtain⟨b,hb⟩:=exE (aB br);rw[←ha,←hb] at Hp;rw[←hb] at g2;rw[←ha];clear ha hb
 by_cases h1:a=0
 ·subst h1;go_wp2_with fail;refine(g2.out _ hG1).mono ?_;rintro e w2 ⟨rfl,hb2⟩;have u1:=y1.below hb2 y1.lt;have u2:=y2.below hb2 y2.lt;have hG2:=aa hG1 hb2 hG1.size;clear z1 z2 l1 l2 y1 y2 hG1 hb2;have z1:=u1.cell 0;have z2:=u2.cell 0;have l1:=u1.lt;have l2:=u2.lt
  by_cases h2:b=0
  ·subst h2;have Hp2:Hid (p=if dW bw name=true∨dW br name=true then 3 else 0):=by show _=_;rw[Hp.out,if_neg (by simp)]
   clear Hp;go_wp2_with fail;refine(f1.out _ hG2).mono ?_;rintro e w3 ⟨cs1,rfl,hr1,hb3⟩;obtain⟨t1,ht1⟩:=exE ((aM bw name).getD .zero);obtain⟨s1,hs1⟩:=exE ((aM bw name).isSome);rw[←ht1] at hr1;rw[←hs1];obtain⟨P1,p1,P2,p2,P3,p3,rfl,-,-,-⟩:=hr1.parts;have v1:=(u2.below hb3 u2.lt).alloc (.cells [Value.string t1.name,.bool t1.enum,.slice P1 t1.fields.length p1,.slice P2 t1.gone.length p2,.slice P3 t1.items.length p3].toArray 53);have hG3:=(aa hG2 hb3 hG2.size).alloc (aa hG2 hb3 hG2.size).size (.cells [Value.string t1.name,.bool t1.enum,.slice P1 t1.fields.length p1,.slice P2 t1.gone.length p2,.slice P3 t1.items.length p3].toArray 53);have k1:=Box.new w3 53 (TT t1 P1 p1 P2 p2 P3 p3);have e1:=hidL (show dW bw name=(!s1||t1.enum) by rw[hs1,ht1,AQ];rfl);clear z1 z2 l1 l2 u1 u2 hG2 hr1 hb3 ht1 hs1;have z2:=v1.cell 0;have l2:=v1.lt;go_upto_region 4 with fail;generalize w3.heap.size=Y1 at k1 ⊢;generalize (World.alloc w3 _)=w4 at v1 hG3 k1 z2 l2 ⊢;go_wp2_with fail;refine(f2.out _ hG3).mono ?_;rintro e w5 ⟨cs2,rfl,hr2,hb5⟩;obtain⟨t2,ht2⟩:=exE ((aM br name).getD .zero);obtain⟨s2,hs2⟩:=exE ((aM br name).isSome);rw[←ht2] at hr2;rw[←hs2];obtain⟨Q1,q1,Q2,q2,Q3,q3,rfl,-,-,-⟩:=hr2.parts;have k1':=(k1.below hb5 k1.lt).alloc (.cells [Value.string t2.name,.bool t2.enum,.slice Q1 t2.fields.length q1,.slice Q2 t2.gone.length q2,.slice Q3 t2.items.length q3].toArray 53);have hG5:=(aa hG3 hb5 hG3.size).alloc (aa hG3 hb5 hG3.size).size (.cells [Value.string t2.name,.bool t2.enum,.slice Q1 t2.fields.length q1,.slice Q2 t2.gone.length q2,.slice Q3 t2.items.length q3].toArray 53);have k2:=Box.new w5 53 (TT t2 Q1 q1 Q2 q2 Q3 q3);have e2:=hidL (show dW br name=(!s2||t2.enum) by rw[hs2,ht2,AQ];rfl);clear z2 l2 v1 hG3 k1 hr2 hb5 ht2 hs2;have Hp3:Hid (p=if (!s1||t1.enum)=true∨(!s2||t2.enum)=true then 3 else 0):=by show _=_;rw[Hp2.out,e1.out,e2.out]
   clear Hp2 e1 e2;go_upto_region 5 with fail;generalize w5.heap.size=Y2 at k2 ⊢;generalize (World.alloc w5 _)=w6 at k1' hG5 k2 ⊢;have m1:LL w6 Y1 1 (.bool t1.enum):=k1'.cell 1;have m2:LL w6 Y2 1 (.bool t2.enum):=k2.cell 1;have n1:=k1'.lt;have n2:=k2.lt;clear k1' k2;obtain⟨b1,hb1⟩:=exE t1.enum;obtain⟨b2,hb2⟩:=exE t2.enum;rw[←hb1,←hb2] at Hp3;rw[←hb1] at m1 ⊢;rw[←hb2] at m2 ⊢;clear hb1 hb2;cases s1 <;> cases s2 <;> cases b1 <;> cases b2 <;> (go_wp2;go_ret;exact⟨by rw[Hp3.out];rfl,hG5⟩)
  ·have Hp2:Hid (p=1):=by show _=_;rw[Hp.out,if_pos (.inr h2)]
   clear Hp u1 u2;go_wp2;go_ret;exact⟨by rw[Hp2.out];rfl,hG2⟩
 ·have Hp2:Hid (p=1):=by show _=_;rw[Hp.out,if_pos (.inl h1)]
  clear Hp y1 y2;go_wp2;go_ret;exact⟨by rw[Hp2.out];rfl,hG1⟩
def okT (g:ay)(tz:ax)(n:Int):Bool:=if g.kind=1 then decide (n=0∨n=1) else if g.kind=4 then jT tz n else true
theorem Yo (S:Nat→Prop)(G Y:Nat)(gi gk gr:Int)(gn gt:ByteArray)(tz:ax)(R1 R2 R3:Option Addr)(r1 r2 r3:Nat)(n:Int)(w:World)(hg:Box w G 55 (FF gi gn gt gk gr))(hY:Box w Y 53 (TT tz R1 r1 R2 r2 R3 r3))(ht:ah S w (TT tz R1 r1 R2 r2 R3 r3) tz) :
  Calls prog 188 #[O n,.pointer (some ⟨G,0,none⟩),.pointer (some ⟨Y,0,none⟩)] w (Ret w (.bool (okT ⟨gi,gn,gt,gk,gr⟩ tz n))):=by
 obtain⟨p,hp⟩:=exE (okT ⟨gi,gn,gt,gk,gr⟩ tz n);have Hp:Hid (p=if gk=1 then decide (n=0∨n=1) else if gk=4 then jT tz n else true):=hp;rw[←hp];have hm:=hidL (KF S _ tz n w ht);have c3:LL w G 3 (O gk):=hg.cell 3;have gl:=hg.lt;obtain⟨y0,y1,y2,y3,y4⟩:=hY.five;have yl:=hY.lt;clear hp hg hY ht
 by_cases h1:gk=1
 ·subst h1;have Hp2:Hid (p=decide (n=0∨n=1)):=by show _=_;rw[Hp.out,if_pos rfl]
  clear Hp
  by_cases h0:n=0
  ·subst h0;go_enter func188,ntmps188;go_wp2;go_ret;exact⟨by rw[Hp2.out];rfl,Below.here w⟩
  ·by_cases h2:n=1
   ·subst h2;go_enter func188,ntmps188;go_wp2;go_ret;exact⟨by rw[Hp2.out];rfl,Below.here w⟩
   ·have Hp3:Hid (p=false):=by show _=_;rw[Hp2.out];exact decide_eq_false (by omega)
    clear Hp2;go_enter func188,ntmps188;go_wp2;go_ret;exact⟨by rw[Hp3.out];simp[h0,h2],Below.here w⟩
 ·by_cases h4:gk=4
  ·subst h4;have Hp2:Hid (p=jT tz n):=by show _=_;rw[Hp.out,if_neg (by decide),if_pos rfl]
   clear Hp h1;go_enter func188,ntmps188;go_wp2_with fail;refine hm.out.mono ?_;rintro e w1 ⟨rfl,hb1⟩;go_wp2;go_ret;exact⟨by rw[Hp2.out];rfl,hb1⟩
  ·have Hp2:Hid (p=true):=by show _=_;rw[Hp.out,if_neg h1,if_neg h4]
   clear Hp;go_enter func188,ntmps188;go_wp2;go_ret;exact⟨by rw[Hp2.out];rfl,Below.here w⟩
theorem JB:dK prog 42 3 1 8:=dK.mk (z:=O 0) underlying42 (by decide) (by decide) (by kernel_rfl) rfl
def Lg:List Int:=[0,1,2,3,4,5,6]
theorem acj {k:Nat}(h:k<7):Lg.take (k+1)=Lg.take k++[(k:Int)]:=by
 have:k=0∨k=1∨k=2∨k=3∨k=4∨k=5∨k=6:=by omega
 rcases this with rfl | rfl | rfl | rfl | rfl | rfl | rfl <;> rfl
def afD (w:World)(r:Option Int)(e:Ending)(w':World):Prop:=e=.returned (.tuple #[O (r.getD 0),.bool r.isSome])∧Below w.heap.size w w'
theorem UV (S:Nat→Prop)(vw vr:Value)(bw br:av)(fi fk fr gi gk gr:Int)(fn ft gn gt:ByteArray)(w:World)(hb1:RSl 5 96 ah S w [vw] bw)(hb2:RSl 5 96 ah S w [vr] br) :
  Calls prog 156 #[.agg #[vw],.agg #[vr],.agg (FF fi fn ft fk fr).toArray,.agg (FF gi gn gt gk gr).toArray] w (afD w (nN bw br ⟨fi,fn,ft,fk,fr⟩ ⟨gi,gn,gt,gk,gr⟩)):=by
 obtain⟨AW,cw,rfl,-,-⟩:=hb1.form;obtain⟨AR,cr,rfl,-,-⟩:=hb2.form;obtain⟨x1,x2,x3,x4,x5⟩:=rQ w [.slice AW bw.length cw] [.slice AR br.length cr] (FF fi fn ft fk fr) (FF gi gn gt gk gr) 38 38 55 55;have f1:=hidL (fun W (h:Below w.heap.size w W)=>gH (Old w) _ bw ft W ((RSl.fair ah.fair).below ((RSl.fair ah.fair).old hb1) h));have f2:=hidL (fun W (h:Below w.heap.size w W)=>gH (Old w) _ br gt W ((RSl.fair ah.fair).below ((RSl.fair ah.fair).old hb2) h));obtain⟨p,hp⟩:=exE (nN bw br ⟨fi,fn,ft,fk,fr⟩ ⟨gi,gn,gt,gk,gr⟩);rw[←hp];have Hp:=hidL hp;have z1:=x1.cell 0;have z2:=x2.cell 0;have z3:World.cell? _ _=some (.string ft):=x3.cell 2;have z4:World.cell? _ _=some (.string gt):=x4.cell 2;have l1:=x1.lt;have l2:=x2.lt;have l3:=x3.lt;have l4:=x4.lt;clear hb1 hb2 hp;go_enter func156,ntmps156;go_wp2_with fail;refine(f1.out _ x5).mono ?_;rintro e w1 ⟨cs1,rfl,hr1,hb1⟩;obtain⟨t1,ht1⟩:=exE ((aM bw ft).getD .zero);have Ht1:=hidL ht1;rw[←ht1] at hr1;obtain⟨P1,p1,P2,p2,P3,p3,rfl,-,-,-⟩:=hr1.parts;have y2:=(x2.below hb1 x2.lt).alloc (.cells (TT t1 P1 p1 P2 p2 P3 p3).toArray 53);have y3:=(x3.below hb1 x3.lt).alloc (.cells (TT t1 P1 p1 P2 p2 P3 p3).toArray 53);have y4:=(x4.below hb1 x4.lt).alloc (.cells (TT t1 P1 p1 P2 p2 P3 p3).toArray 53);have hG1:=(aa x5 hb1 x5.size).alloc (aa x5 hb1 x5.size).size (.cells (TT t1 P1 p1 P2 p2 P3 p3).toArray 53);have k1:=Box.new w1 53 (TT t1 P1 p1 P2 p2 P3 p3);have hr1':=ah.fair.below (ah.fair.below hr1 hb1) ((Below.here w1).alloc (Nat.le_refl _) (.cells (TT t1 P1 p1 P2 p2 P3 p3).toArray 53));clear z1 z2 z3 z4 l1 l2 l3 l4 x1 x2 x3 x4 x5 hr1 hb1 ht1;have z2:=y2.cell 0;have z4:World.cell? _ _=some (.string gt):=y4.cell 2;have l2:=y2.lt;have l4:=y4.lt;go_upto_region 2 with fail;generalize w1.heap.size=Y1 at k1 ⊢;generalize (World.alloc w1 _)=w2 at y2 y3 y4 hG1 k1 hr1' z2 z4 l2 l4 ⊢;go_wp2_with fail;refine(f2.out _ hG1).mono ?_;rintro e w3 ⟨cs2,rfl,hr2,hb3⟩;obtain⟨tz,ht2⟩:=exE ((aM br gt).getD .zero);have Ht2:=hidL ht2;rw[←ht2] at hr2;obtain⟨R1,r1,R2,r2,R3,r3,rfl,-,-,-⟩:=hr2.parts;have v3:=(y3.below hb3 y3.lt).alloc (.cells (TT tz R1 r1 R2 r2 R3 r3).toArray 53);have v4:=(y4.below hb3 y4.lt).alloc (.cells (TT tz R1 r1 R2 r2 R3 r3).toArray 53);have hG3:=(aa hG1 hb3 hG1.size).alloc (aa hG1 hb3 hG1.size).size (.cells (TT tz R1 r1 R2 r2 R3 r3).toArray 53);have k1':=(k1.below hb3 k1.lt).alloc (.cells (TT tz R1 r1 R2 r2 R3 r3).toArray 53);have k2:=Box.new w3 53 (TT tz R1 r1 R2 r2 R3 r3);have hr1'':=ah.fair.below (ah.fair.below hr1' hb3) ((Below.here w3).alloc (Nat.le_refl _) (.cells (TT tz R1 r1 R2 r2 R3 r3).toArray 53));have hr2':=ah.fair.below (ah.fair.below hr2 hb3) ((Below.here w3).alloc (Nat.le_refl _) (.cells (TT tz R1 r1 R2 r2 R3 r3).toArray 53));clear z2 z4 l2 l4 y2 y3 y4 hG1 k1 hr1' hr2 hb3 ht2;go_upto_region 3 with fail;generalize w3.heap.size=Y2 at k2 ⊢;generalize (World.alloc w3 _)=V at v3 v4 hG3 k1' k2 hr1'' hr2' ⊢;have hone:=hidL (fun n W (h:Below V.heap.size V W)=>Yo (Old w) _ Y2 gi gk gr gn gt tz R1 R2 R3 r1 r2 r3 n W (v4.below h v4.lt) (k2.below h k2.lt) (ah.fair.below hr2' h));have c3:LL V (w.heap.size+1+1) 3 (O fk):=v3.cell 3;have l3:=v3.lt;obtain⟨y0,y1,y2,y3,y4⟩:=k1'.five;have yl:=k1'.lt;have hit:=(ah.Uu hr1'').2.2;clear v3 v4 k1' k2 hr1'' hr2'
 go_upto_block 0 with fail
 go_cut [15] from 38 to 63 (fun c W1=>RSl 1 8 aQ (New w) W1 [c] (numsOf bw ⟨fi,fn,ft,fk,fr⟩)∧Below V.heap.size V W1)
 case first =>
  by_cases h1:fk=1
  ·--[ONE
   subst h1;have hb:=Box.new V 3 [O 0,O 1];have hB:=(Below.here V).alloc (Nat.le_refl _) (.cells [O 0,O 1].toArray 3);have hl:RSl 1 8 aQ (New w) (V.alloc (.cells [O 0,O 1].toArray 3)) [.slice (some ⟨V.heap.size,0,none⟩) 2 2] [0,1] :=
    RSl.mD (enc:=fun x=>[O x]) (xs:=[0,1]) hb (show w.heap.size≤V.heap.size from hG3.size) (Nat.le_refl _) (by decide) (fun x hx=>rfl)
   clear hb;go_wp2;go_meet
   case rel=>exact⟨hl,hB⟩
  ·by_cases h4:fk=4
   ·--[FOUR
    subst h4;have hn:Hid (numsOf bw ⟨fi,fn,ft,4,fr⟩=t1.items.map (·.n)):=by show _=_;rw[Ht1.out];rfl
    obtain⟨_,_,hif,hic,hibd⟩:=hit.form;have Hit:=hidL hit;have hil:t1.items.length≤17592186043904:=by omega
    have hin:=hidL hil;clear hif hic hit hibd;go_wp2_with fail;go_loopw [15,54] (fun c15 c54 wr=>∃ k:Nat,c54=O k∧k≤t1.items.length∧Own V.heap.size 3 1 aQ NoT wr c15 ((t1.items.take k).map (·.n))∧Below V.heap.size V wr) (fun _ c54 _=>t1.items.length-(intOf c54).toNat)
    case atStart=>exact⟨0,rfl,Nat.zero_le _,Own.dJ _ _ _ _ _ _,Below.here V⟩
    case round =>
     obtain⟨k,rfl,hk,hO,hB⟩:=hrel
     by_cases hlt:k<t1.items.length
     ·have hlt':(k:Int)<(t1.items.length:Int):=by omega
      obtain⟨g2,o2,rfl,hS2,hg2⟩:=Hit.out.base (by omega);have hc3:=(Hit.out.flat (enc:=dD) hlt).keep (az.of_below hB) (show Old V g2 from hg2);have hgw2:g2<wr.heap.size:=Nat.lt_of_lt_of_le hg2 hB.size;obtain⟨x,hxe⟩:=exE (t1.items[k]);rw[←hxe] at hc3;have hst:(t1.items.take (k+1)).map (·.n)=(t1.items.take k).map (·.n)++[x.n]:=by rw[List.take_succ_eq_append_getElem hlt,List.map_append,hxe];rfl
      have q0:=hc3.a0 rfl;have q1:=hc3.at_ 1 rfl;have hlen:((t1.items.take k).map (·.n)).length≤17592186043904-1:=by rw[List.length_map];exact Nat.le_trans (List.length_take_le _ _) (by omega)
      obtain⟨acc,hacc⟩:=exE ((t1.items.take k).map (·.n));rw[←hacc] at hO hst hlen;clear hacc hxe hc3;obtain⟨As,cs,rfl,-⟩:=hO.form;have Hst:=hidL hst;have Hlen:=hidL hlen;clear hst hlen;have hB5:=hB.alloc hB.size (.cells #[.string x.name,O x.n] 57);have hO5:=hO.alloc aQ.fair (.cells #[.string x.name,O x.n] 57);go_wp2_with (at_builtin;go_must (refine bv _ rfl (.tmp 58) (.tmp 61) rfl JB aQ.fair rfl rfl (hO5.alloc aQ.fair _) (Src.one (es:=[O x.n]) (y:=x.n) rfl (gI.bK rfl) rfl (ik.newAt (by first | rfl | simp[World.setCell]))) (NoT.lt _) ?_ ?_ ?_))
      ·have:=Hlen.out;go_light;(try simp only[List.length_cons,List.length_nil]);omega
      ·have:=hB5.size;go_light;simp only[World.size_alloc] at *;omega
      ·intro v7 w7 hO7 hg7 hv7;have hB7:=below_grown (hB5.alloc hB5.size (.cells #[O x.n] 3)) hg7 (hB5.alloc hB5.size (.cells #[O x.n] 3)).size (fun g' h=>by have:=(hO5.lt h).1;go_light;omega);rw[←Hst.out] at hO7;clear hO hB hg7 hv7 Hst Hlen hB5 hO5 q0 q1;go_wp2;go_roundw
       case rel=>exact⟨k+1,by simp,by omega,hO7,hB7⟩
       case measure=>simp[intOf];omega
     ·obtain rfl:k=t1.items.length:=by omega
      have HR:=hidL (hO.read (S:=New w) (by_:=8) aQ.fair (fun _ h _=>h.elim) (fun k e=>by have:=(hO.lt e).1;have:=hG3.size;exact Nat.le_trans (by assumption) (by assumption)) (by rw[List.length_map,List.take_length];have:=hin.out;omega));clear hO;go_wp2;go_meet
      case rel=>exact⟨by have:=HR.out;rw[List.take_length,←hn.out] at this;exact this,hB⟩
   ·--[SEVEN
    have hn:Hid (numsOf bw ⟨fi,fn,ft,fk,fr⟩=Lg):=by show _=_;unfold numsOf;rw[if_neg h1,if_neg h4];rfl
    clear hit;go_wp2_with fail;simp only[show (fk==1)=false by simp[h1],show (fk==4)=false by simp[h4]];clear h1 h4;go_loopw [15,38] (fun c15 c38 wr=>∃ k:Nat,c38=O k∧k≤7∧Own V.heap.size 3 1 aQ NoT wr c15 (Lg.take k)∧Below V.heap.size V wr) (fun _ c38 _=>7-(intOf c38).toNat)
    case atStart=>exact⟨0,rfl,Nat.zero_le _,Own.dJ _ _ _ _ _ _,Below.here V⟩
    case round =>
     obtain⟨k,rfl,hk,hO,hB⟩:=hrel
     by_cases hlt:k<7
     ·have hlt':(k:Int)<7:=by omega
      have e1:IntKind.i64.wrap ((k:Int)+1)=(k:Int)+1:=IntWalk.i64_in _ (by omega);have hst:=acj hlt;have hlen:(Lg.take k).length≤7:=Nat.le_trans (List.length_take_le _ _) (by omega);obtain⟨acc,hacc⟩:=exE (Lg.take k);rw[←hacc] at hO hst hlen;clear hacc;obtain⟨As,cs,rfl,-⟩:=hO.form;have Hst:=hidL hst;clear hst;go_wp2_with (at_builtin;go_must (refine bv _ rfl (.tmp 41) (.tmp 43) rfl JB aQ.fair rfl rfl (hO.alloc aQ.fair _) (Src.one (es:=[O k]) (y:=(k:Int)) rfl (gI.bK rfl) rfl (ik.newAt (by first | rfl | simp[World.setCell]))) (NoT.lt _) ?_ ?_ ?_))
      ·go_light;simp only[List.length_cons,List.length_nil];omega
      ·go_light;simp only[World.size_alloc];have:=hB.size;omega
      ·intro v7 w7 hO7 hg7 hv7;have hB7:=below_grown (hB.alloc hB.size (.cells #[O k] 3)) hg7 (by simp only[World.size_alloc];have:=hB.size;omega) (fun g' h=>(hO.lt h).1);rw[←Hst.out] at hO7;clear hO hB hg7 hv7 Hst hlen;go_wp2;go_roundw
       case rel=>exact⟨k+1,by simp,by omega,hO7,hB7⟩
       case measure=>simp[intOf];omega
     ·obtain rfl:k=7:=by omega
      have HR:=hidL (hO.read (S:=New w) (by_:=8) aQ.fair (fun _ h _=>h.elim) (fun k e=>by have:=(hO.lt e).1;have:=hG3.size;exact Nat.le_trans (by assumption) (by assumption)) (by decide));clear hO;go_wp2;go_meet
      case rel=>exact⟨by rw[hn.out];exact HR.out,hB⟩
 case rest =>
  obtain⟨hl,hB⟩:=hcut;obtain⟨V1,hV1⟩:=exE wc;subst hV1;obtain⟨An,cn,rfl,-,hnb⟩:=hl.form;have hp1:p=(numsOf bw ⟨fi,fn,ft,fk,fr⟩).find? (fun n => !okT ⟨gi,gn,gt,gk,gr⟩ tz n):=by rw[Hp.out,Ht2.out];rfl
  obtain⟨ns,hns⟩:=exE (numsOf bw ⟨fi,fn,ft,fk,fr⟩);rw[←hns] at hl hp1;rw[←hns];have HN:=hidL hl;have Hq:=hidL hp1;have hnb':ns.length≤17592186043904:=by rw[←hns] at hnb;omega
  clear hl hp1 hns hnb c3 l3 y0 y1 y2 y3 y4 yl hit f1 f2;go_wp2_with fail;go_loopw [66] (fun c66 wr=>∃ k:Nat,c66=O k∧k≤ns.length∧Hid (p=(ns.drop k).find? (fun n => !okT ⟨gi,gn,gt,gk,gr⟩ tz n))∧Below V.heap.size V wr∧Below V1.heap.size V1 wr) (fun c66 _=>ns.length-(intOf c66).toNat)
  case atStart=>exact⟨0,rfl,Nat.zero_le _,Hq,hB,Below.here _⟩
  case round =>
   obtain⟨k,rfl,hk,HP,hB1,hB2⟩:=hrel
   by_cases hlt:k<ns.length
   ·have hlt':(k:Int)<(ns.length:Int):=by omega
    have hN:=(RSl.fair aQ.fair).below HN.out hB2;obtain⟨g2,o2,rfl,hS2,hg2⟩:=hN.base (by omega);have hc3:=hN.flat (enc:=fun x=>[O x]) hlt;obtain⟨x,hxe⟩:=exE (ns[k]);rw[←hxe] at hc3;have q0:LL wr g2 (o2+k) (O x):=by have:=hc3.at_ 0 rfl;simpa using this
    have hP1:Hid (p=if okT ⟨gi,gn,gt,gk,gr⟩ tz x=true then (ns.drop (k+1)).find? (fun n => !okT ⟨gi,gn,gt,gk,gr⟩ tz n) else some x):=by
     show _=_;rw[HP.out,List.drop_eq_getElem_cons hlt,←hxe,List.find?_cons];cases okT ⟨gi,gn,gt,gk,gr⟩ tz x <;> rfl
    have hcall:=hone.out x wr hB1;clear hN hc3 hxe HP;go_wp2_with fail;refine hcall.mono ?_;rintro e w4 ⟨rfl,hb4⟩;have hB4:=aa hB1 hb4 hB1.size;have hB5:=aa hB2 hb4 hB2.size;clear hcall hb4 q0 hB1 hB2;obtain⟨q,hq⟩:=exE (okT ⟨gi,gn,gt,gk,gr⟩ tz x);rw[←hq] at hP1 ⊢;clear hq;cases q with
    | false =>
     have hP2:Hid (p=some x):=hP1;clear hP1;go_wp2_with fail;refine bodyPost_ret (results_tmp2 rfl _ _ _) rfl ?_;exact⟨by rw[hP2.out];rfl,aa hG3 hB4 hG3.size⟩
    | true =>
     have hP2:Hid (p=(ns.drop (k+1)).find? (fun n => !okT ⟨gi,gn,gt,gk,gr⟩ tz n)):=hP1;clear hP1;go_wp2;go_roundw
     case rel=>exact⟨k+1,by simp,by omega,hP2,hB4,hB5⟩
     case measure=>simp[intOf];omega
   ·have hP1:Hid (p=none):=by show _=_;rw[HP.out,List.drop_eq_nil_of_le (by omega)];rfl
    clear HP;go_wp2_with fail;refine bodyPost_ret (results_tmp2 rfl _ _ _) rfl ?_;exact⟨by rw[hP1.out];rfl,aa hG3 hB1 hG3.size⟩
def YJ (w:World)(l:List Int)(e:Ending)(w':World):Prop:=∃ v,e=.returned v∧RSl 1 8 aQ (New w) w' [v] l∧Below w.heap.size w w'
theorem aeG (w r:av)(f g:ay):(Ou w r f g).length≤1:=by
 unfold Ou;split
 ·simp
 ·split <;> simp
theorem Za (S:Nat→Prop)(vw vr:Value)(bw br:av)(fi fk fr gi gk gr:Int)(fn ft gn gt:ByteArray)(w:World)(hb1:RSl 5 96 ah S w [vw] bw)(hb2:RSl 5 96 ah S w [vr] br) :
  Calls prog 113 #[.agg #[vw],.agg #[vr],.agg (FF fi fn ft fk fr).toArray,.agg (FF gi gn gt gk gr).toArray] w (YJ w (lq bw br ⟨fi,fn,ft,fk,fr⟩ ⟨gi,gn,gt,gk,gr⟩)):=by
 obtain⟨AW,cw,rfl,-,-⟩:=hb1.form;obtain⟨AR,cr,rfl,-,-⟩:=hb2.form;obtain⟨x1,x2,x3,x4,x5⟩:=rQ w [.slice AW bw.length cw] [.slice AR br.length cr] (FF fi fn ft fk fr) (FF gi gn gt gk gr) 38 38 55 55;have hlk:=hidL (fun W (h:Below w.heap.size w W)=>UV (Old w) _ _ bw br fi fk fr gi gk gr fn ft gn gt W ((RSl.fair ah.fair).below ((RSl.fair ah.fair).old hb1) h) ((RSl.fair ah.fair).below ((RSl.fair ah.fair).old hb2) h));obtain⟨lk,hlke⟩:=exE (nN bw br ⟨fi,fn,ft,fk,fr⟩ ⟨gi,gn,gt,gk,gr⟩);obtain⟨p,hp⟩:=exE (lq bw br ⟨fi,fn,ft,fk,fr⟩ ⟨gi,gn,gt,gk,gr⟩);obtain⟨q,hq⟩:=exE (Ou bw br ⟨fi,fn,ft,fk,fr⟩ ⟨gi,gn,gt,gk,gr⟩);have hql:q.length≤1:=by rw[hq];exact aeG _ _ _ _
 have Hp:Hid (p=bL (fun a b=>decide (a<b)) (q++if fr=3∧gr≠3 then [2] else [])):=by show _=_;rw[hp,hq];rfl
 have Hq:Hid (q=if kindOf fk≠kindOf gk then [1] else if kindOf fk=0∧lk.isSome=true then [3] else []):=by show _=_;rw[hq,hlke];rfl
 rw[←hp];rw[←hlke] at hlk;have z3:World.cell? _ _=some (O fk):=x3.cell 3;have z4:World.cell? _ _=some (O gk):=x4.cell 3;have l3:=x3.lt;have l4:=x4.lt;clear hb1 hb2 hp hq hlke;go_enter func113,ntmps113;go_upto_region 2 with fail;generalize (World.alloc _ (Obj.cells (FF gi gn gt gk gr).toArray 55))=V at x1 x2 x3 x4 x5 z3 z4 l3 l4 ⊢;have hkq1:=fun n=>Ip fk V n
 have hkq2:=fun n=>Ip gk V n
 obtain⟨k1,hk1⟩:=exE (kindOf fk);obtain⟨k2,hk2⟩:=exE (kindOf gk);have HK3:=hidL (fun W=>Zw fk W);rw[←hk1] at hkq1 HK3;rw[←hk2] at hkq2;rw[←hk1,←hk2] at Hq;have HK1:=hidL hkq1;have HK2:=hidL hkq2;clear hkq1 hkq2 hk1 hk2
 go_quiet ((go_at_call 155;first | exact HK1.out _ | exact HK2.out _))
 go_upto_if 18 with fail;obtain⟨nb,hnb⟩:=exE ((k1 != k2));rw[←hnb];have hd:=below_drewN (Below.here V) nq;have y1:=x1.below hd x1.lt;have y2:=x2.below hd x2.lt;have y3:=x3.below hd x3.lt;have y4:=x4.below hd x4.lt;have hG:=aa x5 hd x5.size;clear x1 x2 x3 x4 x5 hd z3 z4 l3 l4 HK1 HK2;generalize (V.drewN nq)=W0 at y1 y2 y3 y4 hG ⊢;go_cut [9,10,11] from 19 to 37 (fun c _ _ W1=>Own W0.heap.size 3 1 aQ NoT W1 c q∧Below W0.heap.size W0 W1)
 case first =>
  have hO:=(Own.dJ W0.heap.size 3 1 aQ NoT W0);have hB:=Below.here W0;cases nb with
  | true =>
   have hq1:q=[1]:=by rw[Hq.out,if_pos];intro h;rw[h] at hnb;simp at hnb
   clear hnb Hp;go_wp2_with (at_builtin;go_must (refine bv _ rfl (.tmp 19) (.tmp 20) rfl JB aQ.fair rfl rfl (hO.alloc aQ.fair _) (Src.one (es:=[O 1]) (y:=(1:Int)) rfl (gI.bK rfl) rfl (ik.newAt (by first | rfl | simp[World.setCell]))) (NoT.lt _) ?_ ?_ ?_))
   ·go_light;(try simp only[List.length_cons,List.length_nil]);omega
   ·go_light;have:=hB.size;(try simp only[World.size_alloc] at *);omega
   intro v7 w7 hO7 hg7 hv7;have hB7:=below_grown (hB.alloc hB.size (.cells #[O 1] 3)) hg7 (by simp only[World.size_alloc];have:=hB.size;omega) (fun g' h=>(hO.lt h).1);go_wp2;go_meet
   case rel=>exact⟨hq1 ▸ hO7,hB7⟩
  | false =>
   have hkk:k1=k2:=by simpa using hnb.symm
   have hq1:Hid (q=if k1=0∧lk.isSome=true then [3] else []):=by show _=_;rw[Hq.out,if_neg];intro h;exact h hkk
   clear hnb Hq hkk;have z1:=y1.cell 0;have z2:=y2.cell 0;have l1:=y1.lt;have l2:=y2.lt;have z3:World.cell? _ _=some (O fk):=y3.cell 3;have l3:=y3.lt;have l4:=y4.lt;go_wp2_with fail;refine(HK3.out _).mono ?_;rintro e w1 ⟨rfl,hw1⟩;rw[hw1];clear hw1
   by_cases h0:k1=0
   ·subst h0;have hq2:Hid (q=if lk.isSome=true then [3] else []):=by show _=_;rw[hq1.out];simp
    have c3:=y3.five;have c4:=y4.five;obtain⟨c30,c31,c32,c33,c34⟩:=c3;obtain⟨c40,c41,c42,c43,c44⟩:=c4;clear hq1;go_wp2_with fail;refine(hlk.out _ hG).mono ?_;rintro e w2 ⟨rfl,hb2⟩;have hO2:=(Own.dJ W0.heap.size 3 1 aQ NoT w2);cases lk with
    | none =>
     go_wp2;go_meet
     case rel=>exact⟨hq2.out ▸ hO2,hb2⟩
    | some x =>
     clear hO hB;go_wp2_with (at_builtin;go_must (refine bv _ rfl (.tmp 35) (.tmp 36) rfl JB aQ.fair rfl rfl (hO2.alloc aQ.fair _) (Src.one (es:=[O 3]) (y:=(3:Int)) rfl (gI.bK rfl) rfl (ik.newAt (by first | rfl | simp[World.setCell]))) (NoT.lt _) ?_ ?_ ?_))
     ·go_light;(try simp only[List.length_cons,List.length_nil]);omega
     ·go_light;have:=hb2.size;(try simp only[World.size_alloc] at *);omega
     intro v7 w7 hO7 hg7 hv7;have hB7:=below_grown (hb2.alloc hb2.size (.cells #[O 3] 3)) hg7 (by simp only[World.size_alloc];have:=hb2.size;omega) (fun g' h=>(hO2.lt h).1);go_wp2;go_meet
     case rel=>exact⟨hq2.out ▸ hO7,hB7⟩
   ·have hq2:q=[]:=by rw[hq1.out,if_neg];intro h;exact h0 h.1
    clear hq1;go_wp2;go_meet
    case rel=>exact⟨hq2 ▸ hO,hB⟩
 case rest =>
  obtain⟨hO,hB⟩:=hcut;obtain⟨V1,hV1⟩:=exE wc;subst hV1;obtain⟨As,cs,rfl,-⟩:=hO.form;have u3:=y3.below hB y3.lt;have u4:=y4.below hB y4.lt;have hG1:=aa hG hB hG.size;have z3:World.cell? _ _=some (O fr):=u3.cell 4;have z4:World.cell? _ _=some (O gr):=u4.cell 4;have l3:=u3.lt;have l4:=u4.lt;clear y1 y2 y3 y4 u3 u4 Hq HK3 hlk hnb
  by_cases h3:fr=3
  ·subst h3
   by_cases h4:gr=3
   ·subst h4;have hp1:Hid (p=bL ltInt q):=by show _=_;rw[Hp.out];simp;rfl
    have hS:=hidL (Kb _ _ q _ hO (by first | exact HL7.out | omega));go_wp2_with fail;refine hS.out.mono ?_;rintro e w9 ⟨rfl,hg9,hr9⟩;have hB9:=below_grown hB hg9 hB.size (fun g' h=>(hO.lt h).1);go_wp2;go_ret;exact⟨_,rfl,by rw[hp1.out];exact(RSl.fair aQ.fair).mono hr9 (fun k h _=>Nat.le_trans hG.size (hO.lt h).1),aa hG hB9 hG.size⟩
   ·--[T2
    have hp1:Hid (p=bL ltInt (q++[2])):=by show _=_;rw[Hp.out,if_pos ⟨rfl,h4⟩];rfl
    go_wp2_with (at_builtin;go_must (refine bv _ rfl (.tmp 46) (.tmp 47) rfl JB aQ.fair rfl rfl (hO.alloc aQ.fair _) (Src.one (es:=[O 2]) (y:=(2:Int)) rfl (gI.bK rfl) rfl (ik.newAt (by first | rfl | simp[World.setCell]))) (NoT.lt _) ?_ ?_ ?_))
    ·go_light;(try simp only[List.length_cons,List.length_nil]);omega
    ·go_light;have:=hB.size;(try simp only[World.size_alloc] at *);omega
    intro v7 w7 hO7 hg7 hv7;have hB7:=below_grown (hB.alloc hB.size (.cells #[O 2] 3)) hg7 (by simp only[World.size_alloc];have:=hB.size;omega) (fun g' h=>(hO.lt h).1);obtain⟨l7,hl7⟩:=exE (q++[2]);have hll:l7.length≤1000000:=by rw[hl7];simp;omega
    have HL7:=hidL hll;rw[←hl7] at hO7 hp1;clear hll hl7 hql;obtain⟨A7,c7,rfl,-⟩:=hO7.form;clear hO hB hg7 z3 z4;have hS:=hidL (Kb _ _ l7 _ hO7 (by first | exact HL7.out | omega));go_wp2_with fail;refine hS.out.mono ?_;rintro e w9 ⟨rfl,hg9,hr9⟩;have hB9:=below_grown hB7 hg9 hB7.size (fun g' h=>(hO7.lt h).1);go_wp2;go_ret;exact⟨_,rfl,by rw[hp1.out];exact(RSl.fair aQ.fair).mono hr9 (fun k h _=>Nat.le_trans hG.size (hO7.lt h).1),aa hG hB9 hG.size⟩
  ·--[T3
   have hp1:Hid (p=bL ltInt q):=by show _=_;rw[Hp.out,if_neg (fun h=>h3 h.1),List.append_nil];rfl
   have hS:=hidL (Kb _ _ q _ hO (by first | exact HL7.out | omega));go_wp2_with fail;refine hS.out.mono ?_;rintro e w9 ⟨rfl,hg9,hr9⟩;have hB9:=below_grown hB hg9 hB.size (fun g' h=>(hO.lt h).1);go_wp2;go_ret;exact⟨_,rfl,by rw[hp1.out];exact(RSl.fair aQ.fair).mono hr9 (fun k h _=>Nat.le_trans hG.size (hO.lt h).1),aa hG hB9 hG.size⟩
end
section
open Go.Proofs.Tryz
open Go.RowKit
open Go.Sort (grow alloc_eq_grow grow_grow)
def orL (l:List Int):Int:=(l.find? fun x=>x != 0).getD 0
theorem amn (S:Nat→Prop)(v:Value)(l:List Int)(w:World)(h:RSl 1 8 aQ S w [v] l):Calls prog 116 #[v] w (Pur w (O (orL l))):=by
 obtain⟨A,c,rfl,-,hnb⟩:=h.form;obtain⟨p,hp⟩:=exE (orL l);have Hp:Hid (p=(l.find? fun x=>x != 0).getD 0):=hp;rw[←hp];have HN:=hidL h;have hll:l.length≤17592186043904*2:=by omega
 clear h hp hnb;go_enter func116,ntmps116;go_wp2_with fail
 go_loop [8] (fun c=>∃ k:Nat,c=O k∧k≤l.length∧Hid (p=((l.drop k).find? fun x=>x != 0).getD 0)) (fun c=>l.length-(intOf c).toNat)
 case atStart=>exact⟨0,rfl,Nat.zero_le _,Hp⟩
 case round =>
  obtain⟨k,rfl,hk,HP⟩:=hrel
  by_cases hlt:k<l.length
  ·have hlt':(k:Int)<(l.length:Int):=by omega
   obtain⟨g2,o2,rfl,hS2,hg2⟩:=HN.out.base (by omega);have hc3:=HN.out.flat (enc:=fun x=>[O x]) hlt;obtain⟨x,hxe⟩:=exE (l[k]);rw[←hxe] at hc3;have q0:LL w g2 (o2+k) (O x):=by have:=hc3.at_ 0 rfl;simpa using this
   have hP1:Hid (p=if x=0 then ((l.drop (k+1)).find? fun x=>x != 0).getD 0 else x):=by
    show _=_;rw[HP.out,List.drop_eq_getElem_cons hlt,←hxe,List.find?_cons]
    by_cases h0:x=0
    ·subst h0;rfl
    ·rw[show (x != 0)=true by simpa using h0,if_neg h0];rfl
   clear hc3 hxe HP
   by_cases h0:x=0
   ·subst h0;have hP2:Hid (p=((l.drop (k+1)).find? fun x=>x != 0).getD 0):=hP1;clear hP1;go_wp2_with fail
    go_round
    case rel=>exact⟨k+1,by simp,by omega,hP2⟩
    case measure=>simp[intOf];omega
   ·have hP2:Hid (p=x):=by show _=_;rw[hP1.out,if_neg h0]
    clear hP1;go_wp2;go_ret;exact⟨by rw[hP2.out];rfl,rfl⟩
  ·have hP1:Hid (p=0):=by show _=_;rw[HP.out,List.drop_eq_nil_of_le (by omega)];rfl
   clear HP;go_wp2;go_ret;exact⟨by rw[hP1.out];rfl,rfl⟩
def Nw (x y:aX):Int:=orL [Lib.compareBytes x.type.data.toList y.type.data.toList,Lib.compareInt x.id y.id,Lib.compareInt x.why y.why]
theorem ZM (x y:aX)(w:World) :
  Calls prog 115 #[.agg (dh x).toArray,.agg (dh y).toArray] w fun e w'=>e=.returned (O (Nw x y))∧∃ q os',w'=grow (w.drewN q) os':=by
 obtain⟨xt,xi,xw⟩:=x;obtain⟨yt,yi,yw⟩:=y;show Calls _ _ #[.agg #[.string xt,O xi,O xw],.agg #[.string yt,O yi,O yw]] _ _;obtain⟨x1,x2,x3⟩:=bY w [.string xt,O xi,O xw] [.string yt,O yi,O yw] 97 97;obtain⟨p,hp⟩:=exE (Nw ⟨xt,xi,xw⟩ ⟨yt,yi,yw⟩);rw[←hp];have HC:=hidL (fun W=>Tryz.strings_Compare xt yt W);have HI:=hidL (fun W=>Tryz.cmp_Compare_int xi yi W);have HJ:=hidL (fun W=>Tryz.cmp_Compare_int xw yw W);have Hp:Hid (p=orL [Lib.compareBytes xt.data.toList yt.data.toList,Lib.compareInt xi yi,Lib.compareInt xw yw]):=hp;clear hp;obtain⟨c1,hc1⟩:=exE (Lib.compareBytes xt.data.toList yt.data.toList);obtain⟨c2,hc2⟩:=exE (Lib.compareInt xi yi);obtain⟨c3,hc3⟩:=exE (Lib.compareInt xw yw);rw[←hc1,←hc2,←hc3] at Hp;rw[←hc1] at HC;rw[←hc2] at HI;rw[←hc3] at HJ;clear hc1 hc2 hc3;go_enter func115,ntmps115;go_upto_region 1 with fail;refine aJ (fun W'=>(LL W' w.heap.size 0 (.string xt)∧LL W' w.heap.size 1 (O xi)∧LL W' w.heap.size 2 (O xw)) ∧
  LL W' (w.heap.size+1) 0 (.string yt)∧LL W' (w.heap.size+1) 1 (O yi)∧LL W' (w.heap.size+1) 2 (O yw)) (fun i=>decide (i<15)) (by kernel_rfl) ?_
 have hS:=(show (fun W'=>(LL W' w.heap.size 0 (.string xt)∧LL W' w.heap.size 1 (O xi)∧LL W' w.heap.size 2 (O xw)) ∧
  LL W' (w.heap.size+1) 0 (.string yt)∧LL W' (w.heap.size+1) 1 (O yi)∧LL W' (w.heap.size+1) 2 (O yw)) _ from⟨⟨x1.drew.cell 0,x1.drew.cell 1,x1.drew.cell 2⟩,x2.drew.cell 0,x2.drew.cell 1,x2.drew.cell 2⟩)
 clear x1 x2 x3;have hgr:∃ q os',((w.alloc (.cells #[.string xt,O xi,O xw] 97)).alloc (.cells #[.string yt,O yi,O yw] 97)).drew=grow (w.drewN q) os':=⟨1,_,by rw[alloc_eq_grow,alloc_eq_grow,grow_grow];rfl⟩;generalize (World.drew _)=Wd at hS hgr ⊢;apply ppP 0;apply tkP 1 hS;apply ppP 2;apply tkP 3 hS;apply ppP 5;apply tkP 6 hS;apply ppP 7;apply tkP 8 hS;apply ppP 10;apply tkP 11 hS;apply ppP 12;apply tkP 13 hS
 try simp only[pu]
 refine ang 4 (fun K hK=>?_);go_simp;refine(HC.out _).mono ?_;rintro e w1 ⟨rfl,h1⟩;rw[h1];clear h1 w1;refine hK.out _ _ (fun _ _=>hS) ?_
 try simp only[pu]
 refine ang 9 (fun K hK=>?_);go_simp;refine(HI.out _).mono ?_;rintro e w1 ⟨rfl,h1⟩;rw[h1];clear h1 w1;refine hK.out _ _ (fun _ _=>hS) ?_
 try simp only[pu]
 refine ang 14 (fun K hK=>?_);go_simp;refine(HJ.out _).mono ?_;rintro e w1 ⟨rfl,h1⟩;rw[h1];clear h1 w1;refine hK.out _ _ (fun _ _=>hS) ?_
 try simp only[pu]
 refine ang 15 (fun K hK=>?_);go_simp;refine hK.out _ _ nay ?_
 try simp only[pu]
 have hl:RSl 1 8 aQ (Old (Wd.alloc (.cells #[O c1,O c2,O c3] 3))) (Wd.alloc (.cells #[O c1,O c2,O c3] 3)) [.slice (some ⟨Wd.heap.size,0,none⟩) 3 3] [c1,c2,c3] :=
  RSl.mD (enc:=fun x=>[O x]) (xs:=[c1,c2,c3]) (Box.new Wd 3 [O c1,O c2,O c3]) (show Wd.heap.size<_ by simp) (Nat.le_refl _) (by show 3*8≤_;decide) (fun x hx=>rfl)
 have HO:=hidL (amn _ _ _ _ hl);rw[←Hp.out] at HO;clear hl hS;refine ang 16 (fun K hK=>?_);go_simp;refine HO.out.mono ?_;rintro e w1 ⟨rfl,h1⟩;rw[h1];clear h1 w1;refine hK.out _ _ nay ?_
 try simp only[pu]
 refine ang 17 (fun K hK=>?_);go_simp;refine hK.out _ _ nay ?_
 try simp only[pu]
 refine anf ?_ _;go_wp2;go_ret;obtain⟨q,os,rfl⟩:=hgr;exact⟨rfl,q,_,by rw[alloc_eq_grow,grow_grow]⟩
end
section
open Go.Proofs.Tryz
open Go.Sort (SWO)
theorem QT {α:Type}{lt:α→α→Bool}(hO:SWO lt)(x:α):∀ l:List α,l.Pairwise (fun a b=>lt a b=false)→(oo lt x l).Pairwise (fun a b=>lt a b=false)
 | [],_=>by unfold oo;exact List.pairwise_singleton _ _
 | y::l,h=>by
  obtain⟨h1,h2⟩:=List.pairwise_cons.1 h;unfold oo
  by_cases hl:lt x y=true
  ·rw[if_pos hl];refine List.pairwise_cons.2 ⟨fun z hz=>?_,QT hO x l h2⟩;rcases List.mem_cons.1 ((Fs x l).mem_iff.1 hz) with rfl | hz
   ·cases hyz:lt y z with
    | false=>rfl
    | true =>
     have:=hO.trans _ _ _ hl hyz;rw[hO.irrefl] at this;cases this
   ·exact h1 z hz
  ·rw[if_neg hl];have hl':lt x y=false:=by simpa using hl
   refine List.pairwise_cons.2 ⟨fun z hz=>?_,h⟩;rcases List.mem_cons.1 hz with rfl | hz
   ·exact hl'
   ·exact hO.ntrans _ _ _ hl' (h1 z hz)
theorem Ie {α:Type}{lt:α→α→Bool}(hO:SWO lt):∀ (l a:List α),a.Pairwise (fun a b=>lt a b=false)→(l.foldl (fun a x=>oo lt x a) a).Pairwise (fun a b=>lt a b=false)
 | [],_,h=>h
 | x::l,a,h=>Ie hO l _ (QT hO x a h)
theorem Xr {α:Type}{lt:α→α→Bool}(hO:SWO lt)(ht:∀ a b,lt a b=false→lt b a=false→a=b){l l':List α}(hp:l'.Perm l)(hs:l'.Pairwise (fun a b=>lt b a=false)):l'=bL lt l:=by
 refine List.Perm.eq_of_pairwise (le:=fun a b=>lt b a=false) (fun a b _ _ h1 h2=>ht a b h2 h1) hs ?_ (hp.trans (xU l).symm);unfold bL;rw[List.pairwise_reverse];exact Ie hO l [] List.Pairwise.nil
def tT (x y:aX):Prop:=bytes x.type<bytes y.type∨(bytes x.type=bytes y.type∧(x.id<y.id∨(x.id=y.id∧x.why<y.why)))
theorem Pd:∀ (a b:List UInt8),Lib.compareBytes a b<0↔a<b
 | [],[]=>by simp[Lib.compareBytes]
 | [],_::_=>by simp[Lib.compareBytes]
 | _::_,[]=>by simp[Lib.compareBytes]
 | a::x,b::y=>by
  rw[Lib.compareBytes,List.cons_lt_cons_iff]
  by_cases h1:a<b
  ·simp[h1]
  ·by_cases h2:b<a
   ·have h3:a≠b:=fun e=>by subst e;exact h1 h2
    simp[h1,h2,h3]
   ·have h3:a=b:=UInt8.le_antisymm (UInt8.not_lt.1 h2) (UInt8.not_lt.1 h1);subst h3;simp[Pd x y]
theorem Yj:∀ (a b:List UInt8),Lib.compareBytes a b=0↔a=b
 | [],[]=>by simp[Lib.compareBytes]
 | [],_::_=>by simp[Lib.compareBytes]
 | _::_,[]=>by simp[Lib.compareBytes]
 | a::x,b::y=>by
  rw[Lib.compareBytes]
  by_cases h1:a<b
  ·have h3:a≠b:=fun e=>by subst e;exact UInt8.lt_irrefl _ h1
   simp[h1,h3]
  ·by_cases h2:b<a
   ·have h3:a≠b:=fun e=>by subst e;exact h1 h2
    simp[h1,h2,h3]
   ·have h3:a=b:=UInt8.le_antisymm (UInt8.not_lt.1 h2) (UInt8.not_lt.1 h1);subst h3;simp[Yj x y]
theorem aeH (a b:Int):Lib.compareInt a b<0↔a<b:=by
 unfold Lib.compareInt;split
 ·omega
 ·split <;> omega
theorem akk (a b:Int):Lib.compareInt a b=0↔a=b:=by
 unfold Lib.compareInt;split
 ·omega
 ·split <;> omega
theorem anp (a b c:Int):orL [a,b,c]=if a≠0 then a else if b≠0 then b else c:=by
 unfold orL
 by_cases h1:a=0
 ·by_cases h2:b=0
  ·by_cases h3:c=0 <;> simp[h1,h2,h3]
  ·simp[h1,h2]
 ·simp[h1]
theorem aii (x y:aX):Nw x y<0↔tT x y:=by
 unfold Nw tT;rw[anp];have a1:=Pd x.type.data.toList y.type.data.toList;have a2:=Yj x.type.data.toList y.type.data.toList;have b1:=aeH x.id y.id;have b2:=akk x.id y.id;have c1:=aeH x.why y.why;have e1:bytes x.type=x.type.data.toList:=rfl;have e2:bytes y.type=y.type.data.toList:=rfl;rw[e1,e2]
 by_cases h1:Lib.compareBytes x.type.data.toList y.type.data.toList=0
 ·have h1':=a2.1 h1;rw[if_neg (by simpa using h1),h1'];have hi:¬ y.type.data.toList<y.type.data.toList:=List.lt_irrefl _
  by_cases h2:Lib.compareInt x.id y.id=0
  ·rw[if_neg (by simpa using h2),c1];have:=b2.1 h2;simp[this,hi]
  ·rw[if_pos h2,b1];have:¬ x.id=y.id:=fun h=>h2 (b2.2 h)
   simp[this,hi]
 ·rw[if_pos h1,a1];have:¬ x.type.data.toList=y.type.data.toList:=fun h=>h1 (a2.2 h)
  simp[this]
theorem uC (x y:aX):og x y=true↔tT x y:=by
 unfold og tT;have e:ltS x.type y.type↔bytes x.type<bytes y.type:=by
  unfold ltS;rw[Go.Proofs.bytesLess_eq,ByteArray.toList_eq,ByteArray.toList_eq,decide_eq_true_iff]
 have e2:x.type=y.type↔bytes x.type=bytes y.type:=⟨fun h=>by rw[h],fun h=>(qb h).trans (qb rfl).symm⟩;simp only[Bool.or_eq_true,Bool.and_eq_true,decide_eq_true_eq,e,e2]
theorem Vl (x y:aX):ltOf Nw x y=og x y:=by
 unfold ltOf;rw[Bool.eq_iff_iff,decide_eq_true_iff,aii,uC]
theorem aaV (a b:List UInt8):a<b∨a=b∨b<a:=by
 by_cases h1:a<b
 ·exact .inl h1
 ·by_cases h2:b<a
  ·exact .inr (.inr h2)
  ·exact .inr (.inl (List.le_antisymm (List.not_lt.1 h2) (List.not_lt.1 h1)))
theorem MZ (x:aX):¬ tT x x:=by
 rintro(h | ⟨-,h | ⟨-,h⟩⟩)
 ·exact List.lt_irrefl _ h
 ·omega
 ·omega
theorem BQ {x y z:aX}(h:tT x y)(h':tT y z):tT x z:=by
 rcases h with h | ⟨h,k⟩
 ·rcases h' with h' | ⟨h',-⟩
  ·exact .inl (List.lt_trans h h')
  ·exact .inl (h' ▸ h)
 ·rcases h' with h' | ⟨h',k'⟩
  ·exact .inl (h ▸ h')
  ·refine .inr ⟨h.trans h',?_⟩;omega
theorem Bo (x y:aX):tT x y∨x=y∨tT y x:=by
 obtain⟨xt,xi,xw⟩:=x;obtain⟨yt,yi,yw⟩:=y;rcases aaV (bytes xt) (bytes yt) with h | h | h
 ·exact .inl (.inl h)
 ·have ht:xt=yt:=(qb h).trans (qb rfl).symm;subst ht
  by_cases h1:xi<yi
  ·exact .inl (.inr ⟨rfl,.inl h1⟩)
  ·by_cases h2:yi<xi
   ·exact .inr (.inr (.inr ⟨rfl,.inl h2⟩))
   ·obtain rfl:xi=yi:=by omega
    by_cases h3:xw<yw
    ·exact .inl (.inr ⟨rfl,.inr ⟨rfl,h3⟩⟩)
    ·by_cases h4:yw<xw
     ·exact .inr (.inr (.inr ⟨rfl,.inr ⟨rfl,h4⟩⟩))
     ·obtain rfl:xw=yw:=by omega
      exact .inr (.inl rfl)
 ·exact .inr (.inr (.inl h))
theorem za {x y:aX}:og x y=false↔¬ tT x y:=by
 rw[←uC];simp
theorem RV:SWO og:=⟨fun x=>za.2 (MZ x),fun x y z h1 h2=>(uC _ _).2 (BQ ((uC _ _).1 h1) ((uC _ _).1 h2)),fun x y z h1 h2=>za.2 fun h=>by
 have h1:=za.1 h1;have h2:=za.1 h2;rcases Bo y z with k | k | k
 ·exact h2 k
 ·subst k;exact h1 h
 ·exact h1 (BQ h k)⟩
theorem ahc (a b:aX)(h1:og a b=false)(h2:og b a=false):a=b:=by
 rcases Bo a b with k | k | k
 ·exact absurd k (za.1 h1)
 ·exact k
 ·exact absurd k (za.1 h2)
theorem Xx {l l':List aX}(hp:l'.Perm l)(hs:l'.Pairwise (fun a b=>og b a=false)):l'=bL og l:=Xr RV ahc hp hs
end
section
open Go.Proofs.Tryz
open Go.RowKit Go.Sort Go.Shelf
instance:Inhabited aX:=⟨⟨⟨#[]⟩,0,0⟩⟩
theorem Own.amC {α:Type}[Inhabited α]{enc:α→List Value}{base e k g cap n:Nat}{w:World}{xs:List α}(hk:∀ x,(enc x).length=k)(k0:0<k)(h:Own base e k (dS enc) NoT w (.slice (some ⟨g,0,none⟩) n cap) xs):HoldsK enc k w g 0 xs.toArray:=by
 obtain⟨css,h1,h2,h3,h4⟩:=h;have hfr:∀ i,w.frozen? ⟨g,i,none⟩=false:=by
  intro i;rcases h1.2 with ⟨h0,_⟩ | ⟨g',cap',cur,h0,_,hh,_⟩
  ·cases h0
  ·simp only[Value.slice.injEq,Option.some.injEq,Addr.mk.injEq] at h0;obtain⟨⟨rfl,_,_⟩,_,_⟩:=h0;simp[World.frozen?,hh]
 intro t ht;rw[size_flatK] at ht;have ht':t<xs.length*k:=by simpa using ht
 have hq:t / k<xs.length:=Nat.div_lt_of_lt_mul (by rw[Nat.mul_comm];exact ht');have hm:t % k<k:=Nat.mod_lt _ k0;have hx:xs[t / k]? = some xs[t / k]:=List.getElem?_eq_getElem hq;have hc:css[t / k]? = some (css[t / k]'(by omega)):=List.getElem?_eq_getElem (by omega);obtain⟨hl1,hr⟩:=h4 (t / k) _ _ hx hc;have hcs:css[t / k]'(by omega)=enc xs[t / k]:=hr;have hall:∀ x∈css,x.length=k:=by
  intro c hc;obtain⟨i,hi,rfl⟩:=List.getElem_of_mem hc;exact(h4 i (xs[i]'(by omega)) _ (List.getElem?_eq_getElem (by omega)) (List.getElem?_eq_getElem hi)).1
 have hfl:=oD css k (t / k) (t % k) _ hall hc hm;rw[hcs,Nat.div_add_mod' t k,List.getElem?_eq_getElem (show t % k<(enc xs[t / k]).length by rw[hk];exact hm)] at hfl;have:=h1.cells (g:=g) rfl t _ hfl;have hadd:(⟨g,0,none⟩:Addr).add t=⟨g,0+t,none⟩:=by unfold Addr.add;split <;> simp_all
 rw[hadd] at this;refine⟨?_,hfr _⟩;rw[this,get_flatK _ _ _ _ ht];simp[getElem!_pos,hq,hk,hm]
theorem Own.anw {α:Type}[Inhabited α]{enc:α→List Value}{base e k g cap n m:Nat}{w:World}{xs ys:List α}{os:Array Obj}(hk:∀ x,(enc x).length=k)(k0:0<k)(h:Own base e k (dS enc) NoT w (.slice (some ⟨g,0,none⟩) n cap) xs)(hy:ys.length=xs.length) :
  Own base e k (dS enc) NoT (sortWorldK enc k w g 0 m ys.toArray os) (.slice (some ⟨g,0,none⟩) n cap) ys:=by
 obtain⟨css,h1,h2,h3,h4⟩:=h;have hn:n=xs.length:=by
  rcases h1.2 with ⟨h0,_⟩ | ⟨g',cap',cur,h0,_⟩
  ·cases h0
  ·simp only[Value.slice.injEq] at h0;exact h0.2.1
 have hfl:(ys.map enc).flatten.length=ys.length*k:=by
  clear hy h1 h2 h3 h4
  induction ys with
  | nil=>simp
  | cons y l ih=>simp only[List.map_cons,List.flatten_cons,List.length_append,ih,hk,List.length_cons,Nat.add_mul];omega
 rcases h1.2 with ⟨h0,_⟩ | ⟨g',cap',cur,h0,hbg,hh,hnc,hcm,hcs,htk⟩
 ·cases h0
 ·simp only[Value.slice.injEq,Option.some.injEq,Addr.mk.injEq] at h0;obtain⟨⟨rfl,_,_⟩,hnx,rfl⟩:=h0;have hgl:g<w.heap.size:=(Array.getElem?_eq_some_iff.1 hh).1;refine⟨ys.map enc,⟨by rw[hfl],.inr ⟨g,cap,putCells id 0 (flatK enc k ys.toArray) cur,by rw[hy,hn],hbg,?_,by omega,hcm,by simp[putCells,hcs],?_⟩⟩,by simp,h3,?_⟩
  ·show (grow (putRow id (Sort.ahead w m) g 0 (flatK enc k ys.toArray)) os).heap[g]? = _;rw[heap_grow_old _ os (by rw[size_putRow];exact hgl)];simp only[putRow,mapBlock,Array.getElem?_modify];have e:(Sort.ahead w m).heap[g]? = w.heap[g]? := rfl;rw[e,hh];rfl
  ·apply List.ext_getElem?;intro j
   by_cases hj:j<ys.length*k
   ·have hq:j / k<ys.length:=Nat.div_lt_of_lt_mul (by rw[Nat.mul_comm];exact hj);have hm:j % k<k:=Nat.mod_lt _ k0;have hj2:j<cur.size:=by
     rw[hcs];exact Nat.lt_of_lt_of_le hj (Nat.mul_le_mul_right k (by omega))
    have hf:=oD (ys.map enc) k (j / k) (j % k) (enc ys[j / k]) (fun x hx=>by obtain⟨y,-,rfl⟩:=List.mem_map.1 hx;exact hk y) (by rw[List.getElem?_map,List.getElem?_eq_getElem hq];rfl) hm;rw[Nat.div_add_mod' j k] at hf;rw[hf,List.getElem?_take_of_lt hj,Array.getElem?_toList];simp only[putCells,Array.getElem?_mapIdx,Array.getElem?_eq_getElem hj2,Option.map_some];rw[if_pos ⟨by omega,by rw[size_flatK];simpa using hj⟩,Nat.sub_zero,get_flatK _ _ _ _ (by simpa using hj)];simp[getElem!_pos,hq,hk,hm]
   ·rw[List.getElem?_eq_none (show (List.take _ _).length≤j by rw[List.length_take];omega),List.getElem?_eq_none (show (List.map enc ys).flatten.length≤j by rw[hfl];omega)]
  ·intro i x cs hx hc;rw[List.getElem?_map,hx] at hc;simp only[Option.map_some,Option.some.injEq] at hc;subst hc;exact⟨hk x,rfl⟩
theorem Xe {l:List aX}{d':Array aX}(hp:PermIn 0 l.toArray.size l.toArray d')(hs:SortedIn (ltOf Nw) 0 l.toArray.size d'):d'=(bL og l).toArray:=by
 obtain⟨h1,-,h3⟩:=hp;have hz:d'.size=l.length:=by simpa using h1
 have hd:d'.extract 0 l.toArray.size=d':=by rw[←h1];simp
 have hl:l.toArray.extract 0 l.toArray.size=l.toArray:=by simp
 rw[hd,hl] at h3;have hperm:d'.toList.Perm l:=by simpa using h3
 have hpw:d'.toList.Pairwise (fun a b=>og b a=false):=by
  rw[List.pairwise_iff_getElem];intro i j hi hj hij;have:=hs i j (Nat.zero_le _) hij (by simpa[hz] using hj);rw[Vl] at this;have hi':i<d'.size:=by simpa using hi
  have hj':j<d'.size:=by simpa using hj
  simpa[getElem!_pos,hi',hj'] using this
 rw[←Xx hperm hpw]
theorem aff (fv:Value)(w:World):Calls prog 189 #[Z0,O 0,O 0,fv] w fun e w'=>e=.returned (.tuple #[])∧w'=w:=by
 go_enter func189,ntmps189
 go_wp2
 refine wp_loop_rounds 1 ?_;rw[rounds_succ]
 go_wp2
 go_end0
 exact⟨rfl,rfl⟩
theorem afg (lim:Int)(fv:Value)(w:World):Calls prog 157 #[Z0,O 0,O 0,O lim,fv] w fun e w'=>e=.returned (.tuple #[])∧w'=w:=by
 go_enter func157,ntmps157
 go_wp2
 refine wp_loop_rounds 1 ?_;rw[rounds_succ];go_wp2_with (go_at_call 189;refine(aff _ _).mono ?_;rintro e w' ⟨rfl,rfl⟩)
 (try simp only[Exit.inBlock,Exit.then]);refine bodyPost_ret (results_none rfl _ _ _) rfl ?_
 exact⟨rfl,rfl⟩
theorem abO (fv:Value)(w:World):Calls prog 114 #[Z0,fv] w fun e w'=>e=.returned (.tuple #[])∧w'=w:=by
 have hl:=fun W=>Tryz.bits_Len 0 W (by omega) (by omega)
 go_enter func114,ntmps114;go_wp2_with (first | (go_at_call 102;refine(hl _).mono ?_;rintro e w' ⟨rfl,rfl⟩) | (go_at_call 157;refine(afg _ _ _).mono ?_;rintro e w' ⟨rfl,rfl⟩))
 go_end0
 exact⟨rfl,rfl⟩
theorem Ud (base:Nat)(v:Value)(l:List aX)(w:World)(ho:Own base 97 3 aU NoT w v l)(hl:l.length≤17592186043904)(hb:base≤w.heap.size) :
  Calls prog 114 #[v,.func (.func 115) #[] #[]] w fun e w'=>e=.returned (.tuple #[])∧Own base 97 3 aU NoT w' v (bL og l)∧RowKit.Below base w w':=by
 have hform:=ho;obtain⟨css,h1,_⟩:=hform;rcases h1.2 with ⟨rfl,hn⟩ | ⟨g,cap,cur,rfl,hg,hh,hnc,_⟩
 ·have:l=[]:=List.eq_nil_of_length_eq_zero hn;subst this;refine(abO _ w).mono ?_;rintro e w' ⟨rfl,rfl⟩;exact⟨rfl,Own.dJ _ _ _ _ _ _,RowKit.Below.refl _ _⟩
 ·have hgl:g<w.heap.size:=(Array.getElem?_eq_some_iff.1 hh).1;have hH:HoldsK dh 3 w g 0 l.toArray:=Own.amC (fun _=>rfl) (by decide) ho;have eg:∀ args w,(callFunc 115 args).run prog w=.ok (.enter 115 args) w:=enters_of func115 (by kernel_rfl) rfl;have hcall:=AnyQ.slices_SortFunc Tryz.sortFlaw 3 isAgg97 sizeOf97 dh (fun _=>rfl) (fun x v hv=>by simp[dh] at hv;rcases hv with rfl | rfl | rfl <;> rfl) Nw (by rw[show ltOf Nw=og from funext fun x=>funext fun y=>Vl x y];exact RV) 115 #[] g 0 cap l.toArray w eg (fun _ _ _ _ x y=>ZM x y _) hH hgl (by simp;omega);refine hcall.mono ?_;rintro e w' ⟨rfl,d',n,os,hp,hs,rfl⟩;have hd:=Xe hp hs;subst hd;have hgr:=sF (id:Value→Value) w n g 0 (flatK dh 3 (bL og l).toArray) os;exact⟨rfl,Own.anw (fun _=>rfl) (by decide) ho (nu l),(RowKit.Below.refl _ _).grown hgr hb (fun g' hg'=>by cases hg';exact hg)⟩
end
section
open Go.Proofs.Tryz
open Go.RowKit
theorem Cb:prog.eqGuardType prog.depth 97=false:=by kernel_rfl
theorem yH:prog.underlying 97=some (.struct (prog.fieldsOf 97)):=by kernel_rfl
theorem Fx:prog.stoodInHeld 97=false:=by kernel_rfl
theorem Ny {a b:ByteArray}:(a.toList=b.toList)↔a=b:=by
 rw[ByteArray.toList_eq,ByteArray.toList_eq];obtain⟨⟨l⟩⟩:=a;obtain⟨⟨l'⟩⟩:=b;simp
theorem Yh (p q:aX)(W:World):(binOp .eql 97 (.agg (dh p).toArray) (.agg (dh q).toArray)).run prog W=.ok (.bool (decide (p=q))) W:=by
 obtain⟨a,b,c⟩:=p;obtain⟨a',b',c'⟩:=q;have h:=run_equalIn_agg (P:=prog) W 9999 97 #[.string a,O b,O c] #[.string a',O b',O c'] yH Fx;unfold dh;rw[run_eql_struct,h];simp[go_sem,Ny]
 by_cases h1:a=a' <;> by_cases h2:b=b' <;> by_cases h3:c=c' <;> simp[h1,h2,h3]
theorem wE (p q:aX)(W:World):(binOp .neq 97 (.agg (dh p).toArray) (.agg (dh q).toArray)).run prog W=.ok (.bool (!decide (p=q))) W:=by
 obtain⟨a,b,c⟩:=p;obtain⟨a',b',c'⟩:=q;have h:=run_equalIn_agg (P:=prog) W 9999 97 #[.string a,O b,O c] #[.string a',O b',O c'] yH Fx;unfold dh;rw[run_neq_struct,h];simp[go_sem,Ny]
 by_cases h1:a=a' <;> by_cases h2:b=b' <;> by_cases h3:c=c' <;> simp[h1,h2,h3]
theorem GY (a b:aX):∀ m:List aX,kE (m++[a]++[b])=if b=a then kE (m++[a]) else kE (m++[a])++[b]
 | []=>by
  simp only[List.nil_append,List.cons_append,kE]
  by_cases h:a=b
  ·subst h;simp
  ·rw[if_neg h,if_neg (fun e=>h e.symm)]
 | [x]=>by
  have ih:=GY a b [];simp only[List.nil_append,List.cons_append,kE] at ih ⊢
  by_cases h:x=a <;> by_cases h2:b=a
  ·subst h h2;simp
  ·subst h;simp[h2];exact fun e=>h2 e.symm
  ·subst h2;simp[h]
  ·simp[h,h2];exact fun e=>h2 e.symm
 | x::y::m=>by
  have ih:=GY a b (y::m);simp only[List.cons_append,kE] at ih ⊢;rw[ih]
  by_cases h:x=y <;> by_cases h2:b=a <;> simp[h,h2]
theorem Vv {l:List aX}{k:Nat}(h0:0<k)(h:k<l.length):kE (l.take (k+1))=if l[k]=l[k-1]'(by omega) then kE (l.take k) else kE (l.take k)++[l[k]]:=by
 have e1:l.take (k+1)=l.take k++[l[k]]:=List.take_succ_eq_append_getElem h;have e2:l.take k=l.take (k-1)++[l[k-1]'(by omega)]:=by
  have:=List.take_succ_eq_append_getElem (show k-1<l.length by omega)
  rwa [show k-1+1=k by omega] at this
 rw[e1,e2];exact GY _ _ _
theorem Ex {g i:Nat}:∀ (zs:List Value) (o:Nat) (w:World),i<o→(w.setCells g o zs).cell? ⟨g,i,none⟩=w.cell? ⟨g,i,none⟩
 | [],_,_,_=>rfl
 | z::zs,o,w,h=>by
  rw[World.setCells,Ex zs (o+1) _ (by omega)];exact World.cell?_setCell_other _ _ _ _ (by intro e;simp only[Addr.mk.injEq] at e;omega)
theorem CG {base g:Nat}{w:World}(hg:base≤g):∀ (zs:List Value) (o:Nat) (W:World),Below base w W→Below base w (W.setCells g o zs)
 | [],_,_,h=>h
 | z::zs,o,W,h=>by
  rw[World.setCells];exact CG hg zs (o+1) _ (h.setCell (p:=⟨g,o,none⟩) hg z)
theorem DJ {g:Nat}:∀ (zs:List Value) (o:Nat) (W:World),(W.setCells g o zs).heap.size=W.heap.size
 | [],_,_=>rfl
 | z::zs,o,W=>by rw[World.setCells,DJ zs (o+1) _];simp
theorem SQ {P:Program}(w:World)(t e ty:TypeId)(z:Value)(b o n c:Nat)(ht:P.underlying t=some (.slice e))(hv:∀ w,(zeroValue e).run P w=.ok z w)(hn:0<n)
  (h1:∀ v∈(Builtin.zeroCells z.cells n).toList,v.oneCell'=true)
  (hc:∀ j,j<(Builtin.zeroCells z.cells n).toList.length→(w.cell? ⟨b,o+j,none⟩).isSome=true) (hf:∀ j,j<(Builtin.zeroCells z.cells n).toList.length→w.frozen? ⟨b,o+j,none⟩=false) :
  (Builtin.clear_ #[t] ty #[.slice (some ⟨b,o,none⟩) n c]).run P w=.ok (.tuple #[]) (w.setCells b o (Builtin.zeroCells z.cells n).toList):=by
 have hst:=run_storeCells_cells (P:=P) b o (Builtin.zeroCells z.cells n).toList 0 w (by simpa using hc) (by simpa using hf) h1;simp only[Nat.add_zero] at hst;obtain⟨m,rfl⟩:∃ m,n=m+1:=⟨n-1,by omega⟩;simp[Builtin.clear_,run_underlying ht,hv,hst]
theorem Ya (base:Nat)(v:Value)(l:List aX)(w:World)(ho:Own base 97 3 aU NoT w v l)(hl:l.length≤1000000000000)(hb:base≤w.heap.size) :
  Calls prog 118 #[v] w fun e w'=>∃ v',e=.returned v'∧RSl 3 32 aU (fun g=>base≤g) w' [v'] (kE l)∧Below base w w':=by
 obtain⟨A,c,rfl,hlc⟩:=ho.form
 by_cases h2:l.length<2
 ·have hR:=hidL (ho.read (S:=fun g=>base≤g) (by_:=32) aU.fair (fun _ h _=>h.elim) (fun k e=>(ho.lt e).1) (by omega));have h2':(l.length:Int)<2:=by omega
  have e:kE l=l:=by
   match l,h2 with
   | [],_=>rfl
   | [x],_=>rfl
   | x::y::r,h=>simp at h;omega
  rw[e];clear e ho;go_enter func118,ntmps118;go_wp2;go_ret;exact⟨_,rfl,hR.out,Below.refl _ _⟩
 ·obtain⟨g,rfl,hg,hgl⟩:=ho.qR (by omega);have h2':¬ (l.length:Int)<2:=by omega
  have H1:Hid (kE (l.take 1)=l.take 1):=by
   show _=_
   match l,h2 with
   | [],h=>simp at h
   | x::r,_=>rfl
  have hgd:=Cb;have hmx:prog.follows Departure.mixedOrders=true:=by kernel_rfl
  go_enter func118,ntmps118;go_wp2_with fail;have h1l:1≤l.length:=by omega
  clear h2 h2';go_loopw [3] (fun c3 wr=>∃ k:Nat,c3=O k∧1≤k∧k≤l.length∧Hid (kE (l.take k)=l.take k)∧Own base 97 3 aU NoT wr (.slice (some ⟨g,0,none⟩) l.length c) l∧Below base w wr) (fun c3 _=>l.length-(intOf c3).toNat)
  case atStart=>exact⟨1,rfl,Nat.le_refl _,by omega,H1,ho,Below.refl _ _⟩
  case round =>
   obtain⟨k,rfl,hk1,hk,HK,hO,hB⟩:=hrel
   by_cases hlt:k<l.length
   ·have hlt':(k:Int)<(l.length:Int):=by omega
    obtain⟨cs1,-,hr1,hc1⟩:=hO.cells hlt;obtain⟨cs0,-,hr0,hc0⟩:=hO.cells (show k-1<l.length by omega);have Hs:=hidL (Vv (show 0<k by omega) hlt);obtain⟨x,hx⟩:=exE (l[k]);obtain⟨y,hy⟩:=exE (l[k-1]'(by omega));have Hx:Hid (l.take (k+1)=l.take k++[x]):=by show _=_;rw[hx];exact List.take_succ_eq_append_getElem hlt
    rw[←hx] at hr1 Hs;rw[←hy] at hr0 Hs;obtain rfl:cs1=dh x:=hr1;obtain rfl:cs0=dh y:=hr0;have hgw:=(hO.lt rfl).2;have q0:=hc1.a0 rfl;have q1:=hc1.at_ 1 rfl;have q2:=hc1.at_ 2 rfl;have p0:=hc0.a0 rfl;have p1:=hc0.at_ 1 rfl;have p2:=hc0.at_ 2 rfl;have e0:IntKind.i64.wrap ((k:Int)-1)=((k-1:Nat):Int):=by rw[IntWalk.i64_in _ (by omega)];omega
    have hk1':((k-1:Nat):Int)<(l.length:Int):=by omega
    have heq:=fun W=>Yh x y W
    simp only[dh] at heq;obtain⟨d,hd⟩:=exE (decide (x=y));rw[←hd] at heq;have Hd:=hidL hd;clear hc1 hc0 hx hy hd;go_wp2_with fail
    go_region_o
    cases d with
    | false =>
     have hne:x≠y:=fun h=>by have:=Hd.out;rw[decide_eq_true h] at this;cases this
     have HK2:Hid (kE (l.take (k+1))=l.take (k+1)):=by show _=_;rw[Hs.out,if_neg hne,HK.out,Hx.out]
     clear hne HK Hs Hx Hd heq q0 q1 q2 p0 p1 p2;go_wp2;go_roundw
     case rel=>exact⟨k+1,by simp,by omega,by omega,HK2,hO.drew aU.fair,au hB⟩
     case measure=>simp[intOf];omega
    | true =>
     have hxy:x=y:=of_decide_eq_true Hd.out.symm;have hn1:¬ c=k:=by omega
     have hn2:¬ k=c:=by omega
     have HK2:Hid (l.take k=kE (l.take (k+1))):=by show _=_;rw[Hs.out,if_pos hxy,HK.out]
     have hO':=hO.drew aU.fair;have hB':=au hB;clear hxy HK Hs Hx Hd heq q0 q1 q2 p0 p1 p2 hO hB e0 hk1';go_wp2_with fail;generalize wr.drew=wq at hO' hB' ⊢;go_loopw [3,5] (fun c3 c5 wt=>∃ (kk k2:Nat) (dk:List aX),c3=O kk∧c5=O k2∧1≤k2∧k+k2≤l.length∧kk<k+k2∧dk.length=l.length∧Hid (dk.take kk=kE (l.take (k+k2)))∧Hid (∀ j,k+k2-1≤j→dk[j]? = l[j]?) ∧
      Own base 97 3 aU NoT wt (.slice (some ⟨g,0,none⟩) l.length c) dk∧Below base w wt) (fun _ c5 _=>l.length-(intOf c5).toNat)
     case atStart=>exact⟨k,1,l,rfl,rfl,Nat.le_refl _,by omega,by omega,rfl,HK2,(fun _ _=>rfl),hO',hB'⟩
     case round =>
      obtain⟨kk,k2,dk,rfl,rfl,h1,hle,hkk,hdl,HT,HD,hO2,hB2⟩:=hrel;have Hdl:=hidL hdl;have Hkk:=hidL hkk;clear hO' hB'
      by_cases hlt2:k+k2<l.length
      ·--[KEEP
       have hlt3:(k2:Int)<((l.length-k:Nat):Int):=by omega
       obtain⟨cs1,-,hr1,hc1⟩:=hO2.cells (show k+k2<dk.length by omega);obtain⟨cs0,-,hr0,hc0⟩:=hO2.cells (show k+k2-1<dk.length by omega);obtain⟨csk,-,hrk,hck⟩:=hO2.cells (show kk<dk.length by omega);have Hs:=hidL (Vv (show 0<k+k2 by omega) hlt2);obtain⟨x,hx⟩:=exE (l[k+k2]);obtain⟨y,hy⟩:=exE (l[k+k2-1]'(by omega));have hx2:dk[k+k2]'(by omega)=x:=by
        have:=HD.out (k+k2) (by omega);rw[List.getElem?_eq_getElem (by omega),List.getElem?_eq_getElem (by omega)] at this;rw[hx];exact Option.some.inj this
       have hy2:dk[k+k2-1]'(by omega)=y:=by
        have:=HD.out (k+k2-1) (by omega);rw[List.getElem?_eq_getElem (by omega),List.getElem?_eq_getElem (by omega)] at this;rw[hy];exact Option.some.inj this
       rw[hx2] at hr1;rw[hy2] at hr0;rw[←hx,←hy] at Hs;obtain⟨z,hz⟩:=exE (dk[kk]'(by omega));rw[←hz] at hrk;obtain rfl:cs1=dh x:=hr1;obtain rfl:cs0=dh y:=hr0;obtain rfl:csk=dh z:=hrk;have hgw:=(hO2.lt rfl).2;have q0:LL wr g (k*3+k2*3) (.string x.type):=by have:=hc1.at_ 0 rfl;rwa [show (k+k2)*3+0=k*3+k2*3 by omega] at this
       have q1:LL wr g (k*3+k2*3+1) (O x.id):=by have:=hc1.at_ 1 rfl;rwa [show (k+k2)*3+1=k*3+k2*3+1 by omega] at this
       have q2:LL wr g (k*3+k2*3+2) (O x.why):=by have:=hc1.at_ 2 rfl;rwa [show (k+k2)*3+2=k*3+k2*3+2 by omega] at this
       have p0:LL wr g (k*3+(k2-1)*3) (.string y.type):=by have:=hc0.at_ 0 rfl;rwa [show (k+k2-1)*3+0=k*3+(k2-1)*3 by omega] at this
       have p1:LL wr g (k*3+(k2-1)*3+1) (O y.id):=by have:=hc0.at_ 1 rfl;rwa [show (k+k2-1)*3+1=k*3+(k2-1)*3+1 by omega] at this
       have p2:LL wr g (k*3+(k2-1)*3+2) (O y.why):=by have:=hc0.at_ 2 rfl;rwa [show (k+k2-1)*3+2=k*3+(k2-1)*3+2 by omega] at this
       have u0:=hck.a0 rfl;have u1:=hck.at_ 1 rfl;have u2:=hck.at_ 2 rfl;have f0:=hO2.frozen (kk*3);have f1:=hO2.frozen (kk*3+1);have f2:=hO2.frozen (kk*3+2);have e0:IntKind.i64.wrap ((k2:Int)-1)=((k2-1:Nat):Int):=by rw[IntWalk.i64_in _ (by omega)];omega
       have hk1':((k2-1:Nat):Int)<((l.length-k:Nat):Int):=by omega
       have hkk3:(kk:Int)<(l.length:Int):=by omega
       have heq:=fun W=>wE x y W
       simp only[dh] at heq;obtain⟨d,hd⟩:=exE (decide (x=y));rw[←hd] at heq;have Hd:=hidL hd;have Hlt2:=hidL hlt2;clear hc1 hc0 hck hx hy hd hx2 hy2 hdl hz;go_wp2_with fail
       go_region_o
       cases d with
       | true =>
        have hxy:x=y:=of_decide_eq_true Hd.out.symm;have HT2:Hid (dk.take kk=kE (l.take (k+(k2+1)))):=by show _=_;rw[←Nat.add_assoc,Hs.out,if_pos hxy];exact HT.out
        clear hxy Hs Hd HT heq q0 q1 q2 p0 p1 p2 u0 u1 u2 f0 f1 f2;go_wp2;go_roundw
        case rel=>exact⟨kk,k2+1,dk,rfl,by simp,by omega,by omega,by omega,Hdl.out,HT2,(fun j hj=>HD.out j (by omega)),hO2.drew aU.fair,au hB2⟩
        case measure=>simp[intOf];omega
       | false =>
        have hxy:x≠y:=fun h=>by have:=Hd.out;rw[decide_eq_true h] at this;cases this
        have HT2:Hid ((dk.set kk x).take (kk+1)=kE (l.take (k+(k2+1)))):=by
         show _=_;rw[←Nat.add_assoc,Hs.out,if_neg hxy,←HT.out];have hkd:kk<dk.length:=by have:=Hdl.out;omega
         rw[List.take_succ_eq_append_getElem (by rw[List.length_set];exact hkd),List.getElem_set_self,List.take_set_of_le (Nat.le_refl _)]
        have hst:=(hO2.drew aU.fair);rw[←Hdl.out] at hst;have hst2:=hst.store aU.fair (i:=kk) (by have:=Hdl.out;omega) (cs:=dh x) (x:=x) rfl rfl;rw[Hdl.out] at hst2;have HST:=hidL hst2;clear hst hst2 hxy Hs Hd HT;go_wp2;go_roundw
        case rel=>exact⟨kk+1,k2+1,dk.set kk x,by simp,by simp,by omega,by omega,by omega,by rw[List.length_set];exact Hdl.out,HT2,(fun j hj=>by rw[List.getElem?_set_ne (by omega)];exact HD.out j (by omega)),HST.out.1,below_grown (au hB2) HST.out.2 (Nat.le_trans hb (au hB2).size) (fun g' h=>by cases h;exact hg)⟩
        case measure=>simp[intOf];omega
      ·--[END
       have hend:k+k2=l.length:=by omega
       have hlt3:¬ (k2:Int)<((l.length-k:Nat):Int):=by omega
       have hT:dk.take kk=kE l:=by have:=HT.out;rwa [hend,List.take_length] at this
       have hkl:kk<l.length:=by omega
       have hkl3:(kk:Int)≤(l.length:Int):=by omega
       have hn1:¬ c=kk:=by omega
       have hn2:¬ kk=c:=by omega
       have hO3:=hO2;rw[←Hdl.out] at hO3;obtain⟨n,hn⟩:=exE (l.length-kk);obtain⟨zs,hzs⟩:=exE ((Builtin.zeroCells (Value.agg #[E0,O 0,O 0]).cells n).toList);have hzl:zs.length=n*3:=by rw[hzs];simp[Builtin.zeroCells,Value.cells]
       have hcs:∀ i,i<l.length*3→(wr.cell? ⟨g,i,none⟩).isSome=true:=by
        obtain⟨css,ho1,-⟩:=hO3;intro i hi;rw[ho1.cellAt _ (by rw[hdl];exact hi),List.getElem?_eq_getElem (by rw[ho1.1,hdl];exact hi)];rfl
       have hcl:∀ ty,(Builtin.clear_ #[30] ty #[.slice (some ⟨g,kk*3,none⟩) (l.length-kk) (c-kk)]).run prog wr=.ok (.tuple #[]) (wr.setCells g (kk*3) zs):=by
        intro ty;rw[←hn,hzs];refine SQ wr _ _ ty _ g (kk*3) n _ underlying30 zeroValue97 (by omega) ?_ ?_ ?_
        ·intro v hv;simp[Builtin.zeroCells,Value.cells] at hv;obtain⟨i,-,rfl⟩:=hv;have:i % 3=0∨i % 3=1∨i % 3=2:=by omega
         rcases this with h | h | h <;> rw[h] <;> rfl
        ·rw[←hzs,hzl];intro j hj;exact hcs _ (by omega)
        ·intro j _;exact hO2.frozen _
       have hcells:∀ j x,(kE l)[j]? = some x→ik wr g (j*3) (dh x):=by
        intro j x hx;rw[←hT] at hx;obtain⟨hj,hjx⟩:=List.getElem?_eq_some_iff.1 hx;rw[List.length_take] at hj;obtain⟨cs,-,hr,hc⟩:=hO2.cells (show j<dk.length by omega);obtain rfl:cs=dh dk[j]:=hr;rw[List.getElem_take] at hjx;rw[←hjx];exact hc
       have hlen:(kE l).length=kk:=by rw[←hT,List.length_take];omega
       have hres:RSl 3 32 aU (fun g=>base≤g) (wr.setCells g (kk*3) zs) [.slice (some ⟨g,0,none⟩) kk c] (kE l):=by
        refine⟨some ⟨g,0,none⟩,c,by rw[hlen],by rw[hlen];omega,by rw[hlen];omega,fun j x hx=>⟨g,0,dh x,rfl,hg,?_,rfl,rfl,fun i hi=>?_⟩⟩
        ·rw[DJ];exact(hO2.lt rfl).2
        ·have hj:=(List.getElem?_eq_some_iff.1 hx).1;have hi3:i<3:=hi;rw[Ex zs _ _ (by omega)];have:=hcells j x hx i hi
         rwa [show j*3+i=0+j*3+i by omega] at this
       have HR:=hidL hres;have HB:=hidL (CG hg zs (kk*3) wr hB2);clear hres hcells hcs hT HT HD hzl hzs hO3 hlen hO2;go_wp2;go_ret;exact⟨_,rfl,HR.out,HB.out⟩
   ·obtain rfl:k=l.length:=by omega
    have hR:=hidL (hO.read (S:=fun g=>base≤g) (by_:=32) aU.fair (fun _ h _=>h.elim) (fun k e=>(hO.lt e).1) (by omega));have e:kE l=l:=by have:=HK.out;rwa [List.take_length] at this
    have He:=hidL e;clear e hO;go_wp2;go_ret;exact⟨_,rfl,by rw[He.out];exact hR.out,hB⟩
theorem abw (w r:av)(f g:ay):(lq w r f g).length≤2:=by
 unfold lq;rw[nu,List.length_append];have h1:=aeG w r f g;have h2:(Qu f g).length≤1:=by unfold Qu;split <;> simp
 omega
theorem YR (w r:av)(p:bQ)(f:ay):(iJ w r p f).length≤2:=by
 unfold iJ;split
 ·simp
 ·rw[List.length_map];exact abw _ _ _ _
theorem Ee {α β:Type}{F:α→List β}{n:Nat}:∀ {l:List α},(∀ x∈l,(F x).length≤n)→(l.flatMap F).length≤l.length*n
 | [],_=>by simp
 | x::l,h=>by
  rw[List.flatMap_cons,List.length_append,List.length_cons,Nat.add_mul];have h1:=h x (by simp);have h2:=Ee (l:=l) (fun y hy=>h y (by simp[hy]));omega
theorem MP {b:av}(h:aB b=0){t:ax}(ht:t∈b):t.fields.length≤5:=by
 cases he:t.enum with
 | true=>have:=(fE h ht he).2.2.2.1;omega
 | false=>exact(bq h ht he).1
theorem acw {w r:av}{name:ByteArray}(hw:aB w=0)(hr:aB r=0)(h1:dW w name=false)(h2:dW r name=false):(lm w r name).length≤160:=by
 have hok:ic w r (gu w r name):=kY hw hr _ _ _ (iK h1 h2);have h16:=sixteen hw hr hok;unfold lm;have:=Ee (l:=gu w r name) (n:=10) (F:=fun p=>(typeOf w p.w).fields.flatMap (iJ w r p)) (fun p hp=>by
  have h5:=MP hw (dB (hok.2 p hp).1);have:=Ee (l:=(typeOf w p.w).fields) (n:=2) (F:=iJ w r p) (fun f _=>YR w r p f);omega)
 omega
def agN (w:World)(r:List aX × Int)(e:Ending)(w':World):Prop:=∃ v,e=.returned (.tuple #[v,O r.2])∧RSl 3 32 aU (New w) w' [v] r.1∧Below w.heap.size w w'
theorem agl {w r:av}{name:ByteArray}(h:iH w r name=0):aB w=0∧aB r=0∧dW w name=false∧dW r name=false:=by
 unfold iH at h;split at h
 ·cases h
 ·rename_i h1
  split at h
  ·cases h
  ·rename_i h2
   refine⟨Decidable.byContradiction fun e=>h1 (.inl e),Decidable.byContradiction fun e=>h1 (.inr e),?_,?_⟩
   ·cases hn:dW w name with
    | false=>rfl
    | true=>exact absurd (.inl hn) h2
   ·cases hn:dW r name with
    | false=>rfl
    | true=>exact absurd (.inr hn) h2
def xO (bw br:av)(p:bQ):List aX:=(typeOf bw p.w).fields.flatMap (iJ bw br p)
theorem akc {α:Type}{sz by_:Nat}{R:Rel α}(hR:Fair R){w w7:World}{v v7 x:Value}{ys:List α}(h:RSl sz by_ R (fun y=>v.ownBlock≠some y) w [x] ys)(o:Obj)(hg:(w.alloc o).grownBy w7 v.ownBlock)(hv:v7.ownBlock=v.ownBlock∨v7.ownBlock=some (w.heap.size+1)) :
  RSl sz by_ R (fun y=>v7.ownBlock≠some y) w7 [x] ys:=by
 have h1:RSl sz by_ R (fun y=>v.ownBlock≠some y∧v7.ownBlock≠some y) w [x] ys:=(RSl.fair hR).mono h (fun k hk hlt=>⟨hk,fun e=>by
  rcases hv with h | h
  ·rw[h] at e;exact hk e
  ·rw[h] at e;injection e with e
   subst e;omega⟩)
 have h2:RSl sz by_ R (fun y=>v.ownBlock≠some y∧v7.ownBlock≠some y) w7 [x] ys:=(RSl.fair hR).keep h1 ((az.alloc _ w o).trans (az.bH hg (fun k e hk=>hk.1 e)));exact(RSl.fair hR).mono h2 (fun k hk _=>hk.2)
theorem qI (S:Nat→Prop)(vw vr:Value)(bw br:av)(name:ByteArray)(w:World)(hb1:RSl 5 96 ah S w [vw] bw)(hb2:RSl 5 96 ah S w [vr] br)(hW:Words w)(o1:aS bw)(o2:aS br) :
  Calls prog 85 #[.agg #[vw],.agg #[vr],.string name] w (agN w (dH bw br name)):=by
 obtain⟨AW,cw,rfl,-,-⟩:=hb1.form;obtain⟨AR,cr,rfl,-,-⟩:=hb2.form;obtain⟨x1,x2,x3⟩:=bY w [.slice AW bw.length cw] [.slice AR br.length cr] 38 38;have H1:=hidL ((RSl.fair ah.fair).old hb1);have H2:=hidL ((RSl.fair ah.fair).old hb2);have hbo:=hidL (fun W (h:Below w.heap.size w W)=>QF S _ _ bw br name W ((RSl.fair ah.fair).below hb1 h) ((RSl.fair ah.fair).below hb2 h) (hW.below h) o1 o2);obtain⟨p,hp⟩:=exE (dH bw br name);obtain⟨b,hb⟩:=exE (iH bw br name);have Hp:Hid (p=if b≠0 then ([],b) else (kE (bL og (lm bw br name)),0)):=by show _=_;rw[hp,hb];rfl
 rw[←hp];rw[←hb] at hbo;have Hb:=hidL hb;have z1:=x1.cell 0;have z2:=x2.cell 0;have l1:=x1.lt;have l2:=x2.lt;clear hb1 hb2 hp hb;go_enter func85,ntmps85;go_wp2_with fail;refine(hbo.out _ x3).mono ?_;rintro e w1 ⟨rfl,hb1⟩;have y1:=x1.below hb1 x1.lt;have y2:=x2.below hb1 x2.lt;have hG1:=aa x3 hb1 x3.size;clear z1 z2 l1 l2 x1 x2 x3 hb1 hbo
 by_cases h0:b=0
 ·subst h0;have hz:=agl Hb.out.symm;have HZ:=hidL hz;have Hp2:Hid (p=(kE (bL og (lm bw br name)),0)):=Hp.out;clear hz Hp;have z1:=y1.cell 0;have z2:=y2.cell 0;have l1:=y1.lt;have l2:=y2.lt;have hpa:=hidL (Vo (Old w) _ _ bw br name w1 ((RSl.fair ah.fair).below H1.out hG1) ((RSl.fair ah.fair).below H2.out hG1) HZ.out.1 HZ.out.2.1 HZ.out.2.2.1 HZ.out.2.2.2);go_wp2_with fail;refine hpa.out.mono ?_;rintro e V ⟨vp,rfl,hvp,hb2⟩;have u1:=y1.below hb2 y1.lt;have u2:=y2.below hb2 y2.lt;have hG2:=aa hG1 hb2 hG1.size;obtain⟨AP,cp,rfl,hpc,hpb⟩:=hvp.form;obtain⟨P,hP⟩:=exE (gu bw br name);rw[←hP] at hvp;rw[←hP];have HP:=hidL hP;have Hvp:=hidL hvp;have hp16:P.length≤16:=by rw[hP];exact sixteen HZ.out.1 HZ.out.2.1 (kY HZ.out.1 HZ.out.2.1 _ _ _ (iK HZ.out.2.2.1 HZ.out.2.2.2))
  have HL:=hidL (acw HZ.out.1 HZ.out.2.1 HZ.out.2.2.1 HZ.out.2.2.2);clear z1 z2 l1 l2 y1 y2 hG1 hb2 hpa hpc hpb hvp hP;go_wp2_with fail;go_loopw [9,34] (fun c9 c34 wr=>∃ k:Nat,c34=O k∧k≤P.length∧Own V.heap.size 97 3 aU NoT wr c9 ((P.take k).flatMap (xO bw br))∧Below V.heap.size V wr) (fun _ c34 _=>P.length-(intOf c34).toNat)
  case atStart=>exact⟨0,rfl,Nat.zero_le _,Own.dJ _ _ _ _ _ _,Below.here V⟩
  case round =>
   obtain⟨k,rfl,hk,hO,hB⟩:=hrel
   by_cases hlt:k<P.length
   ·--[RND
    have hlt':(k:Int)<(P.length:Int):=by omega
    have hvp:=(RSl.fair nU.fair).below Hvp.out hB;obtain⟨gp,op,es,rfl,hSp,hgp,-,hre,hcp⟩:=hvp.at_ hlt;obtain⟨q,hq⟩:=exE (P[k]);rw[←hq] at hre;obtain rfl:es=pM q:=hre;have Hk:Hid ((P.take (k+1)).flatMap (xO bw br)=(P.take k).flatMap (xO bw br)++xO bw br q):=by show _=_;rw[List.take_succ_eq_append_getElem hlt,List.flatMap_append,←hq];simp
    have hacc:((P.take k).flatMap (xO bw br)).length+(xO bw br q).length≤160:=by
     have h1:=HL.out;have h2:(lm bw br name)=P.flatMap (xO bw br):=by rw[HP.out];rfl
     rw[h2,←List.take_append_drop (k+1) P,List.flatMap_append,List.length_append,Hk.out,List.length_append] at h1;omega
    have Hq:Hid (xO bw br q=(typeOf bw q.w).fields.flatMap (iJ bw br q)):=rfl;obtain⟨acc,hac⟩:=exE ((P.take k).flatMap (xO bw br));rw[←hac] at hO hacc Hk;have Hacc:=hidL hacc;have f1:=hidL (fun W (h:Below w.heap.size w W)=>gH (Old w) _ bw q.w W ((RSl.fair ah.fair).below H1.out h));have f2:=hidL (fun W (h:Below w.heap.size w W)=>gH (Old w) _ br q.r W ((RSl.fair ah.fair).below H2.out h));obtain⟨pw,pr,pf,pi⟩:=q;have Hfo:=hidL (fun f=>(rfl:iJ bw br ⟨pw,pr,pf,pi⟩ f=iJ bw br ⟨pw,pr,pf,pi⟩ f));have q0:=hcp.a0 rfl;have q1:=hcp.at_ 1 rfl;have q2:=hcp.at_ 2 rfl;have q3:=hcp.at_ 3 rfl;have bT:=Box.new wr 183 [.string pw,.string pr,O pf,O pi];have hO3:=hO.alloc aU.fair (.cells [.string pw,.string pr,O pf,O pi].toArray 183);have hB3:=hB.alloc hB.size (.cells [.string pw,.string pr,O pf,O pi].toArray 183);clear hvp hSp hcp hq hac hO hacc;go_upto_region 8 with fail;clear q0 q1 q2 q3 hgp;generalize wr.heap.size=T at bT ⊢;generalize (World.alloc wr _)=w3 at bT hO3 hB3 ⊢;have y1:=u1.below hB3 u1.lt;have y2:=u2.below hB3 u2.lt;have hG3:=aa hG2 hB3 hG2.size;have z1:=y1.cell 0;have z2:=y2.cell 0;have b0:LL w3 T 0 (.string pw):=bT.cell 0;have l1:=y1.lt;have l2:=y2.lt;have lT:=bT.lt;clear hB;go_wp2_with fail;refine(f1.out _ hG3).mono ?_;rintro e w4 ⟨cs1,rfl,hr1,hb4⟩;obtain⟨t1,ht1⟩:=exE ((aM bw pw).getD .zero);have Ht1:=hidL ht1;rw[←ht1] at hr1;obtain⟨P1,p1,P2,p2,P3,p3,rfl,-,-,-⟩:=hr1.parts;have bT4:=(bT.below hb4 bT.lt).alloc (.cells (TT t1 P1 p1 P2 p2 P3 p3).toArray 53);have hO4:=(hO3.below aU.fair hb4).alloc aU.fair (.cells (TT t1 P1 p1 P2 p2 P3 p3).toArray 53);have hB4:=(aa hB3 hb4 hB3.size).alloc (aa hB3 hb4 hB3.size).size (.cells (TT t1 P1 p1 P2 p2 P3 p3).toArray 53);have k1:=Box.new w4 53 (TT t1 P1 p1 P2 p2 P3 p3);have hr1':=ah.fair.below (ah.fair.below hr1 hb4) ((Below.here w4).alloc (Nat.le_refl _) (.cells (TT t1 P1 p1 P2 p2 P3 p3).toArray 53));clear z1 z2 b0 l1 l2 lT y1 y2 hG3 bT hO3 hB3 hr1 hb4 ht1;go_upto_region 9 with fail;generalize w4.heap.size=Y1 at k1 ⊢;generalize (World.alloc w4 _)=w5 at bT4 hO4 hB4 k1 hr1' ⊢;have y1:=u1.below hB4 u1.lt;have y2:=u2.below hB4 u2.lt;have hG5:=aa hG2 hB4 hG2.size;have z2:=y2.cell 0;have b1:LL w5 T 1 (.string pr):=bT4.cell 1;have l2:=y2.lt;have lT:=bT4.lt;go_wp2_with fail;refine(f2.out _ hG5).mono ?_;rintro e w6 ⟨cs2,rfl,hr2,hb6⟩;obtain⟨tz,ht2⟩:=exE ((aM br pr).getD .zero);have Ht2:=hidL ht2;rw[←ht2] at hr2;obtain⟨R1,r1,R2,r2,R3,r3,rfl,-,-,-⟩:=hr2.parts;have bT6:=(bT4.below hb6 bT4.lt).alloc (.cells (TT tz R1 r1 R2 r2 R3 r3).toArray 53);have hO6:=(hO4.below aU.fair hb6).alloc aU.fair (.cells (TT tz R1 r1 R2 r2 R3 r3).toArray 53);have hB6:=(aa hB4 hb6 hB4.size).alloc (aa hB4 hb6 hB4.size).size (.cells (TT tz R1 r1 R2 r2 R3 r3).toArray 53);have k1':=(k1.below hb6 k1.lt).alloc (.cells (TT tz R1 r1 R2 r2 R3 r3).toArray 53);have k2:=Box.new w6 53 (TT tz R1 r1 R2 r2 R3 r3);have hr1'':=ah.fair.below (ah.fair.below hr1' hb6) ((Below.here w6).alloc (Nat.le_refl _) (.cells (TT tz R1 r1 R2 r2 R3 r3).toArray 53));have hr2':=ah.fair.below (ah.fair.below hr2 hb6) ((Below.here w6).alloc (Nat.le_refl _) (.cells (TT tz R1 r1 R2 r2 R3 r3).toArray 53));clear z2 b1 l2 lT y1 y2 hG5 bT4 hO4 hB4 k1 hr1' hr2 hb6 ht2 f1 f2;go_upto_region 10 with fail;generalize w6.heap.size=Y2 at k2 ⊢;generalize (World.alloc w6 _)=V2 at bT6 hO6 hB6 k1' k2 hr1'' hr2' ⊢;have y12:LL V2 Y1 2 (.slice P1 t1.fields.length p1):=k1'.cell 2;have y1l:=k1'.lt;have hFl:=(ah.Uu hr1'').1;obtain⟨_,_,-,-,hfb⟩:=hFl.form;have HFl:=hidL hFl;have Hr2:=hidL hr2';have HQ:Hid (xO bw br ⟨pw,pr,pf,pi⟩=t1.fields.flatMap (iJ bw br ⟨pw,pr,pf,pi⟩)):=by show _=_;rw[Hq.out,Ht1.out];rfl
    have hGV2:=aa hG2 hB6 hG2.size;clear hFl hr1'' hr2' k1' Hq;go_wp2_with fail;clear y12 y1l;go_loopw [9,55] (fun c9 c55 wt=>∃ j:Nat,c55=O j∧j≤t1.fields.length∧Own V.heap.size 97 3 aU NoT wt c9 (acc++(t1.fields.take j).flatMap (iJ bw br ⟨pw,pr,pf,pi⟩))∧Box wt T 183 [.string pw,.string pr,O pf,O pi]∧Box wt Y2 53 (TT tz R1 r1 R2 r2 R3 r3)∧Below V.heap.size V wt∧az (Old w) V2 wt) (fun _ c55 _=>t1.fields.length-(intOf c55).toNat)
    case atStart=>exact⟨0,rfl,Nat.zero_le _,by simpa using hO6,bT6,k2,hB6,az.refl _ _⟩
    case round =>
     clear hO6 bT6 k2 hB6;obtain⟨j,rfl,hj,hO,bT,k2,hB,hK⟩:=hrel
     by_cases hjl:j<t1.fields.length
     ·--[FLD
      have hjl':(j:Int)<(t1.fields.length:Int):=by omega
      have hFl:=(RSl.fair aH.fair).keep HFl.out hK;obtain⟨gf,of,es,rfl,hSf,hgf,-,hre,hcf⟩:=hFl.at_ hjl;obtain⟨f,hf⟩:=exE (t1.fields[j]);rw[←hf] at hre;obtain rfl:es=aI f:=hre;have Hst:Hid (acc++(t1.fields.take (j+1)).flatMap (iJ bw br ⟨pw,pr,pf,pi⟩)=acc++(t1.fields.take j).flatMap (iJ bw br ⟨pw,pr,pf,pi⟩)++iJ bw br ⟨pw,pr,pf,pi⟩ f):=by
       show _=_;rw[List.take_succ_eq_append_getElem hjl,List.flatMap_append,←hf];simp
      have hacc2:(acc++(t1.fields.take j).flatMap (iJ bw br ⟨pw,pr,pf,pi⟩)).length+(iJ bw br ⟨pw,pr,pf,pi⟩ f).length≤160:=by
       have h1:=Hacc.out;rw[HQ.out,←List.take_append_drop (j+1) t1.fields,List.flatMap_append] at h1;have h2:=congrArg List.length Hst.out;simp only[List.length_append] at h1 h2 ⊢;omega
      have Hacc2:=hidL hacc2;obtain⟨acc2,hac2⟩:=exE (acc++(t1.fields.take j).flatMap (iJ bw br ⟨pw,pr,pf,pi⟩));rw[←hac2] at hO Hst Hacc2;clear hacc2 hac2;obtain⟨rg,hrg⟩:=exE (aC tz f.id);have hfo:=hidL (fun W (h:az (Old w) V2 W)=>qD (Old w) _ tz f.id W (ah.fair.keep Hr2.out h));rw[←hrg] at hfo;have Hfz:Hid (aC (typeOf br pr) f.id=rg):=by show _=_;rw[hrg,Ht2.out];rfl
      obtain⟨fi,fn,ft,fk,fr⟩:=f;dsimp only at hfo Hfz;have r0:=hcf.a0 rfl;have r1':=hcf.at_ 1 rfl;have r2':=hcf.at_ 2 rfl;have r3':=hcf.at_ 3 rfl;have r4':=hcf.at_ 4 rfl;have bF:=Box.new wr 55 (FF fi fn ft fk fr);have bT3:=bT.alloc (.cells (FF fi fn ft fk fr).toArray 55);have k23:=k2.alloc (.cells (FF fi fn ft fk fr).toArray 55);have hO3:=hO.alloc aU.fair (.cells (FF fi fn ft fk fr).toArray 55);have hB3:=hB.alloc hB.size (.cells (FF fi fn ft fk fr).toArray 55);have hK3:=hK.trans (az.alloc (Old w) wr (.cells (FF fi fn ft fk fr).toArray 55));clear hFl hSf hcf hf hrg bT k2 hO hB hK;go_upto_region 13 with fail;clear r0 r1' r2' r3' r4' hgf;generalize wr.heap.size=F at bF ⊢;generalize (World.alloc wr _)=w3 at bF bT3 k23 hO3 hB3 hK3 ⊢;obtain⟨c0,c1,c2,c3,c4⟩:=k23.five;have cl:=k23.lt;have f0:LL w3 F 0 (O fi):=bF.cell 0;have fl:=bF.lt;go_wp2_with fail;refine(hfo.out _ hK3).mono ?_;rintro e w4 ⟨rfl,hb4⟩;obtain⟨rv,hrv⟩:=exE (rg.getD .zero);rw[←hrv];have Hrv:=hidL hrv;obtain⟨gi,gn,gt,gk,gr⟩:=rv;simp only[aI];clear hrv;have bG:=Box.new w4 55 (FF gi gn gt gk gr);have bF4:=(bF.below hb4 bF.lt).alloc (.cells (FF gi gn gt gk gr).toArray 55);have bT4:=(bT3.below hb4 bT3.lt).alloc (.cells (FF gi gn gt gk gr).toArray 55);have k24:=(k23.below hb4 k23.lt).alloc (.cells (FF gi gn gt gk gr).toArray 55);have hO4:=(hO3.below aU.fair hb4).alloc aU.fair (.cells (FF gi gn gt gk gr).toArray 55);have hB4:=(aa hB3 hb4 hB3.size).alloc (aa hB3 hb4 hB3.size).size (.cells (FF gi gn gt gk gr).toArray 55);have hK4:=(hK3.trans (az.of_below hb4)).trans (az.alloc (Old w) w4 (.cells (FF gi gn gt gk gr).toArray 55));clear c0 c1 c2 c3 c4 cl f0 fl bF bT3 k23 hO3 hB3 hK3 hb4 hfo;go_upto_region 14 with fail;generalize w4.heap.size=G at bG ⊢;generalize (World.alloc w4 _)=w5 at bG bF4 bT4 k24 hO4 hB4 hK4 ⊢;cases rg with
      | none =>
       have hz:iJ bw br ⟨pw,pr,pf,pi⟩ ⟨fi,fn,ft,fk,fr⟩=[]:=by unfold iJ;rw[Hfz.out]
       have hO5:=hO4;rw[show acc2=acc2++iJ bw br ⟨pw,pr,pf,pi⟩ ⟨fi,fn,ft,fk,fr⟩ by rw[hz,List.append_nil],←Hst.out] at hO5;clear hO4 hz;go_wp2;go_roundw
       case rel=>exact⟨j+1,by simp,by omega,hO5,bT4,k24,hB4,hK4⟩
       case measure=>simp[intOf];omega
      | some g =>
       have hg:g=⟨gi,gn,gt,gk,gr⟩:=Hrv.out.symm;subst hg;have hwh:=hidL (Za (Old w) _ _ bw br fi fk fr gi gk gr fn ft gn gt w5 ((RSl.fair ah.fair).below H1.out (aa hG2 hB4 hG2.size)) ((RSl.fair ah.fair).below H2.out (aa hG2 hB4 hG2.size)));obtain⟨ys,hys⟩:=exE (lq bw br ⟨fi,fn,ft,fk,fr⟩ ⟨gi,gn,gt,gk,gr⟩);have Hz:Hid (iJ bw br ⟨pw,pr,pf,pi⟩ ⟨fi,fn,ft,fk,fr⟩=ys.map fun y=>⟨pw,fi,y⟩):=by show _=_;unfold iJ;rw[Hfz.out,hys]
       have hyl:ys.length≤2:=by rw[hys];exact abw _ _ _ _
       rw[←hys] at hwh;have y1:=u1.below hB4 u1.lt;have y2:=u2.below hB4 u2.lt;have z1:=y1.cell 0;have z2:=y2.cell 0;have l1:=y1.lt;have l2:=y2.lt;obtain⟨a0,a1,a2,a3,a4⟩:=bF4.five;have al:=bF4.lt;obtain⟨b0,b1,b2,b3,b4⟩:=bG.five;have bl:=bG.lt;clear hys;go_wp2_with fail;refine hwh.out.mono ?_;rintro e w6 ⟨vy,rfl,hry,hb6⟩;obtain⟨Ay,cy,rfl,-,-⟩:=hry.form;have bT6:=bT4.below hb6 bT4.lt;have bF6:=bF4.below hb6 bF4.lt;have k26:=k24.below hb6 k24.lt;have hO6:=hO4.below aU.fair hb6;have hB6:=aa hB4 hb6 hB4.size;have hK6:=hK4.trans (az.of_below hb6);clear z1 z2 l1 l2 y1 y2 a0 a1 a2 a3 a4 al b0 b1 b2 b3 b4 bl bG bF4 bT4 k24 hB4 hK4 hb6 hwh;go_wp2_with fail;go_loopw [9,74] (fun c9 c74 wt=>∃ i:Nat,c74=O i∧i≤ys.length∧Own V.heap.size 97 3 aU NoT wt c9 (acc2++(ys.take i).map (fun y=>⟨pw,fi,y⟩))∧Box wt T 183 [.string pw,.string pr,O pf,O pi]∧Box wt F 55 (FF fi fn ft fk fr)∧Box wt Y2 53 (TT tz R1 r1 R2 r2 R3 r3)∧RSl 1 8 aQ (fun y=>c9.ownBlock≠some y) wt [.slice Ay ys.length cy] ys∧Below V.heap.size V wt∧az (Old w) V2 wt) (fun _ c74 _=>ys.length-(intOf c74).toNat)
       case atStart=>exact⟨0,rfl,Nat.zero_le _,by simpa using hO6,bT6,bF6,k26,(RSl.fair aQ.fair).mono hry (fun k hk _ e=>absurd (hO4.lt e).2 (Nat.not_lt.2 hk)),hB6,hK6⟩
       case round =>
        clear hO6 bT6 bF6 k26 hB6 hK6 hO4 hry;obtain⟨i,rfl,hi,hO,bT,bF,k2,hry,hB,hK⟩:=hrel
        by_cases hil:i<ys.length
        ·--[PUSH
         have hil':(i:Int)<(ys.length:Int):=by omega
         obtain⟨gy,oy,rfl,hSy,hgy⟩:=hry.base (by omega);have hcy:=hry.flat (enc:=fun x=>[O x]) hil;obtain⟨y,hy⟩:=exE (ys[i]);rw[←hy] at hcy;have q0:LL wr gy (oy+i) (O y):=by have:=hcy.at_ 0 rfl;simpa using this
         have Hst2:Hid (acc2++(ys.take (i+1)).map (fun y=>(⟨pw,fi,y⟩:aX))=acc2++(ys.take i).map (fun y=>(⟨pw,fi,y⟩:aX))++[⟨pw,fi,y⟩]):=by
          show _=_;rw[List.take_succ_eq_append_getElem hil,List.map_append,←hy];simp
         have hl3:(acc2++(ys.take i).map (fun y=>(⟨pw,fi,y⟩:aX))).length≤200:=by
          have:=Hacc2.out;rw[List.length_append,List.length_map,List.length_take];omega
         obtain⟨acc3,hac3⟩:=exE (acc2++(ys.take i).map (fun y=>(⟨pw,fi,y⟩:aX)));rw[←hac3] at hO Hst2 hl3;have Hl3:=hidL hl3;obtain⟨As,cs,rfl,-⟩:=hO.form;have b0:LL wr T 0 (.string pw):=bT.cell 0;have f0:LL wr F 0 (O fi):=bF.cell 0;have bl:=bT.lt;have fl:=bF.lt;clear hcy hy hl3 hac3;go_wp2_with (at_builtin;go_must (refine bv _ rfl (.tmp 78) (.tmp 85) rfl qF aU.fair rfl rfl (hO.alloc aU.fair _) (Src.one (es:=[.string pw,O fi,O y]) (y:=(⟨pw,fi,y⟩:aX)) rfl (gI.bK rfl) rfl (ik.newAt (by first | rfl | simp[World.setCell]))) (NoT.lt _) ?_ ?_ ?_))
         ·have:=Hl3.out;go_light;(try simp only[List.length_cons,List.length_nil]);omega
         ·have:=hB.size;go_light;simp only[World.size_alloc] at *;omega
         ·intro v7 w7 hO7 hg7 hv7;have hOa:=hO.alloc aU.fair (.cells #[.string pw,O fi,O y] 97);have hB7:=below_grown (hB.alloc hB.size (.cells #[.string pw,O fi,O y] 97)) hg7 (hB.alloc hB.size (.cells #[.string pw,O fi,O y] 97)).size (fun g' h=>(hO.lt h).1);have bTa:=bT.alloc (.cells #[.string pw,O fi,O y] 97);have bFa:=bF.alloc (.cells #[.string pw,O fi,O y] 97);have k2a:=k2.alloc (.cells #[.string pw,O fi,O y] 97);have bT7:=bTa.grown hg7 (bTa.gV hOa (by decide));have bF7:=bFa.grown hg7 (bFa.gV hOa (by decide));have k27:=k2a.grown hg7 (k2a.gV hOa (by decide));have hK7:=(hK.trans (az.alloc (Old w) wr (.cells #[.string pw,O fi,O y] 97))).trans (az.bH hg7 (fun k e hk=>absurd (show k<w.heap.size from hk) (Nat.not_lt.2 (Nat.le_trans hG2.size (hO.lt e).1))));have hry7:=akc aQ.fair hry _ hg7 hv7;rw[←Hst2.out] at hO7;clear hO bT bF k2 hry hB hK hOa bTa bFa k2a hg7 hv7 q0 b0 f0 bl fl Hst2 Hl3;go_wp2;go_roundw
          case rel=>exact⟨i+1,by simp,by omega,hO7,bT7,bF7,k27,hry7,hB7,hK7⟩
          case measure=>simp[intOf];omega
        ·--[LAST
         obtain rfl:i=ys.length:=by omega
         have hO5:=hO;rw[List.take_length,←Hz.out,←Hst.out] at hO5;clear hO hry bF;go_wp2;go_roundw
         case rel=>exact⟨j+1,by simp,by omega,hO5,bT,k2,hB,hK⟩
         case measure=>simp[intOf];omega
     ·obtain rfl:j=t1.fields.length:=by omega
      have hO':=hO;rw[List.take_length,←HQ.out,←Hk.out] at hO';clear hO hK bT k2;go_wp2;go_roundw
      case rel=>exact⟨k+1,by simp,by omega,hO',hB⟩
      case measure=>simp[intOf];omega
   ·--[END
    obtain rfl:k=P.length:=by omega
    rw[List.take_length] at hO;have hfl:P.flatMap (xO bw br)=lm bw br name:=by rw[HP.out];rfl
    rw[hfl] at hO;obtain⟨Ac,cc,rfl,-⟩:=hO.form;have hlen:=HL.out;obtain⟨L,hL⟩:=exE (lm bw br name);rw[←hL] at hO hlen Hp2;rw[←hL];have hs:=hidL (Ud V.heap.size _ L wr hO (by omega) hB.size);have hvl:Hid (L.length≤160):=hlen;clear hL hfl hlen hO hk hlt hp16 u1 u2;go_wp2_with fail;refine hs.out.mono ?_;rintro e w4 ⟨rfl,hO4,hb4⟩;have hB4:=hB.trans hb4;have hc:=hidL (Ya V.heap.size _ _ w4 hO4 (by rw[nu];have:=hvl.out;omega) hB4.size);clear hs hO4 hb4 hB;go_wp2_with fail;refine hc.out.mono ?_;rintro e w5 ⟨v5,rfl,hr5,hb5⟩;obtain⟨A5,c5,rfl,-,-⟩:=hr5.form;have HR:=hidL hr5;have hB5:=hB4.trans hb5;clear hc hr5 hb5 hB4;go_wp2_with fail;refine bodyPost_ret (results_tmp2 rfl _ _ _) rfl ?_;rw[Hp2.out];exact⟨_,rfl,(RSl.fair aU.fair).mono HR.out (fun k h _=>Nat.le_trans hG2.size h),aa hG2 hB5 hG2.size⟩
 ·have Hp2:Hid (p=([],b)):=by show _=_;rw[Hp.out,if_pos h0]
  clear Hp;go_wp2_with fail;refine bodyPost_ret (results_tmp2 rfl _ _ _) rfl ?_;rw[Hp2.out];exact⟨_,rfl,RSl.dJ,hG1⟩
end
end Go.Proofs.YtknnhpkjgnkcdaaGreatDoor
