/- Walks and plain laws. -/
import Derived.Test.YtknnhpkjgnkcdaaGreatDoorTops
import Derived.Test.YtknnhpkjgnkcdaaGreatDoorMsame
set_option linter.all false
set_option maxRecDepth 100000
set_option maxHeartbeats 8000000
namespace Go.Proofs.YtknnhpkjgnkcdaaGreatDoor
section
open Go.Proofs.Tryz
open Go.RowKit
theorem RSl.front {α:Type}{sz by_ n c:Nat}{R:Rel α}{S:Nat→Prop}{w:World}{A:Option Addr}{xs ys:List α}(h:RSl sz by_ R S w [.slice A n c] (xs++ys)):RSl sz by_ R S w [.slice A xs.length c] xs:=by
 obtain⟨A',cap,h1,h2,h3,h4⟩:=h;simp only[List.cons.injEq,Value.slice.injEq,and_true] at h1;obtain⟨rfl,-,rfl⟩:=h1;rw[List.length_append] at h2 h3;refine⟨A,c,rfl,by omega,Nat.le_trans (Nat.mul_le_mul_right _ (Nat.le_add_right _ _)) h3,fun k x hx=>h4 k x ?_⟩;rw[List.getElem?_append_left (List.getElem?_eq_some_iff.1 hx).1];exact hx
theorem Tq (p:aX)(W:World):(binOp .neq 97 (.agg #[.string p.type,O p.id,O p.why]) (.agg #[.string p.type,O p.id,O p.why])).run prog W=.ok (.bool false) W:=by
 have:=wE p p W;simpa[dh] using this
theorem ahu (S S':Nat→Prop)(v v':Value)(l:List Int)(w:World)(hl:RSl 1 8 aQ S w [v] l)(hl':RSl 1 8 aQ S' w [v'] l):Calls prog 81 #[v,v'] w (Ret w (.bool true)):=by
 obtain⟨A,cap,rfl,hlc,hlb⟩:=hl.form;obtain⟨A',cap',rfl,hlc',hlb'⟩:=hl'.form;have HL:=hidL hl;have HL':=hidL hl';clear hl hl';go_enter func81,ntmps81;go_wp2_with fail;go_loopw [13] (fun i wr=>∃ k:Nat,i=O k∧k≤l.length∧Below w.heap.size w wr) (fun i _=>l.length-(intOf i).toNat)
 case atStart=>exact⟨0,rfl,by omega,Below.refl _ _⟩
 case round =>
  obtain⟨k,rfl,hk,hb⟩:=hrel
  by_cases hlt:k<l.length
  ·obtain⟨g,o,es,rfl,hS,hg,hes,hr,hc⟩:=((RSl.fair aQ.fair).below HL.out hb).at_ hlt;obtain⟨g',o',es',rfl,hS',hg',hes',hr',hc'⟩:=((RSl.fair aQ.fair).below HL'.out hb).at_ hlt;obtain⟨p,hpe⟩:=exE (l[k]);rw[←hpe] at hr hr';clear hpe;obtain rfl:es=[O p]:=hr;obtain rfl:es'=[O p]:=hr';have c0:LL wr g (o+k) (O p):=by have:=hc.at_ 0 rfl;simpa using this
   have d0:LL wr g' (o'+k) (O p):=by have:=hc'.at_ 0 rfl;simpa using this
   clear hc hc' hes hes' hg hg' hS hS';go_wp2_with fail
   go_quiet (fail)
   go_wp2;go_roundw
   case rel=>exact⟨k+1,by go_num,by omega,below_drewN hb _⟩
   case measure=>simp[intOf];omega
  ·go_wp2;go_ret;exact⟨rfl,hb⟩
theorem aki (S S':Nat→Prop)(cs cs':List Value)(r:kR)(w:World)(h:jd S w cs r)(h':jd S' w cs' r):Calls prog 14 #[.agg cs.toArray,.agg cs'.toArray] w (Ret w (.bool true)):=by
 obtain⟨f1,rfl,hl⟩:=h;obtain⟨f2,rfl,hl'⟩:=h';obtain⟨F1,k1,rfl,-,-⟩:=hl.form;obtain⟨F2,k2,rfl,-,-⟩:=hl'.form;obtain⟨rc,rn,rt,l⟩:=r;dsimp only at hl hl' ⊢;obtain⟨x1,x2,x3⟩:=bY w [O rc,O rn,.string rt,.slice F1 l.length k1] [O rc,O rn,.string rt,.slice F2 l.length k2] 32 32;have HL:=hidL ((RSl.fair aU.fair).below hl x3);have HL':=hidL ((RSl.fair aU.fair).below hl' x3);have hlb:l.length≤9223372036854775807:=by obtain⟨_,_,_,_,hb⟩:=hl.form;omega
 clear hl hl';go_enter func14,ntmps14;go_upto_region 1 with fail;have hx1:=x1.lt;have hx2:w.heap.size+1<_:=x2.lt;have hs3:=x3.size;generalize World.alloc (World.alloc w _) _=W2 at x1 x2 x3 hx1 hx2 hs3 HL HL' ⊢;have X1:=hidL x1;have X2:=hidL x2;have a0:=x1.c 0 rfl;have a1:=x1.c 1 rfl;have a2:=x1.c 2 rfl;have a3:=x1.c 3 rfl;have b0:=x2.c 0 rfl;have b1:=x2.c 1 rfl;have b2:=x2.c 2 rfl;have b3:=x2.c 3 rfl;clear x1 x2;go_wp2_with fail;clear a0 a1 a2 a3 b0 b1 b2 b3;go_loopw [37] (fun i wr=>∃ k:Nat,i=O k∧k≤l.length∧Below W2.heap.size W2 wr) (fun i _=>l.length-(intOf i).toNat)
 case atStart=>exact⟨0,rfl,by omega,Below.refl _ _⟩
 case round =>
  obtain⟨k,rfl,hk,hb⟩:=hrel
  by_cases hlt:k<l.length
  ·obtain⟨g,o,es,rfl,hS,hg,hes,hr,hc⟩:=((RSl.fair aU.fair).below HL.out hb).at_ hlt;obtain⟨g',o',es',rfl,hS',hg',hes',hr',hc'⟩:=((RSl.fair aU.fair).below HL'.out hb).at_ hlt;obtain⟨p,hpe⟩:=exE (l[k]);rw[←hpe] at hr hr';clear hpe;obtain rfl:es=dh p:=hr;obtain rfl:es'=dh p:=hr';have a3:=(X1.out.below hb X1.out.lt).c 3 rfl;have b3:=(X2.out.below hb X2.out.lt).c 3 rfl;have c0:=hc.a0 rfl;have d0:=hc'.a0 rfl;have c1:=hc.at_ 1 rfl;have d1:=hc'.at_ 1 rfl;have c2:=hc.at_ 2 rfl;have d2:=hc'.at_ 2 rfl;have hgd:=Cb;have hneq:=fun W=>Tq p W
   have hlk:(k:Int)<l.length:=by omega
   clear hc hc' hes hes' hg hg' hS hS';go_wp2_with fail
   go_quiet (fail)
   go_wp2;go_roundw
   case rel=>exact⟨k+1,by go_num,by omega,below_drewN hb _⟩
   case measure=>simp[intOf];omega
  ·have hlk:¬ (k:Int)<l.length:=by omega
   have hb9:=aa x3 hb hs3;go_wp2;go_ret;exact⟨rfl,hb9⟩
theorem Xt (p:gD)(W:World):(binOp .neq 61 (.agg #[.string p.name,O p.commit,O p.policy]) (.agg #[.string p.name,O p.commit,O p.policy])).run prog W=.ok (.bool false) W:=by
 rw[run_neq_struct,run_equalIn_agg (P:=prog) W 9999 61 _ _ (show prog.underlying 61=some (.struct (prog.fieldsOf 61)) by kernel_rfl) (show prog.stoodInHeld 61=false by kernel_rfl)];simp[go_sem]
theorem aga (S S':Nat→Prop)(v v':Value)(l:List gD)(w:World)(hl:RSl 3 32 iG S w [v] l)(hl':RSl 3 32 iG S' w [v'] l):Calls prog 40 #[v,v'] w (Ret w (.bool true)):=by
 obtain⟨A,cap,rfl,hlc,hlb⟩:=hl.form;obtain⟨A',cap',rfl,hlc',hlb'⟩:=hl'.form;have HL:=hidL hl;have HL':=hidL hl';clear hl hl';go_enter func40,ntmps40;go_wp2_with fail;go_loopw [13] (fun i wr=>∃ k:Nat,i=O k∧k≤l.length∧Below w.heap.size w wr) (fun i _=>l.length-(intOf i).toNat)
 case atStart=>exact⟨0,rfl,by omega,Below.refl _ _⟩
 case round =>
  obtain⟨k,rfl,hk,hb⟩:=hrel
  by_cases hlt:k<l.length
  ·obtain⟨g,o,es,rfl,hS,hg,hes,hr,hc⟩:=((RSl.fair iG.fair).below HL.out hb).at_ hlt;obtain⟨g',o',es',rfl,hS',hg',hes',hr',hc'⟩:=((RSl.fair iG.fair).below HL'.out hb).at_ hlt;obtain⟨p,hpe⟩:=exE (l[k]);rw[←hpe] at hr hr';clear hpe;obtain rfl:es=aN p:=hr;obtain rfl:es'=aN p:=hr';have c0:=hc.a0 rfl;have d0:=hc'.a0 rfl;have c1:=hc.at_ 1 rfl;have d1:=hc'.at_ 1 rfl;have c2:=hc.at_ 2 rfl;have d2:=hc'.at_ 2 rfl;have hgd:prog.eqGuardType prog.depth 61=false:=by kernel_rfl
   have hneq:=fun W=>Xt p W
   clear hc hc' hes hes' hg hg' hS hS';go_wp2_with fail
   go_quiet (fail)
   go_wp2;go_roundw
   case rel=>exact⟨k+1,by go_num,by omega,below_drewN hb _⟩
   case measure=>simp[intOf];omega
  ·go_wp2;go_ret;exact⟨rfl,hb⟩
theorem afE (S S':Nat→Prop)(v v':Value)(b:av)(w:World)(h1:RSl 5 96 ah S w [v] b)(h2:RSl 5 96 ah S' w [v'] b):Calls prog 11 #[.agg #[v],.agg #[v']] w (Ret w (.bool true)):=by
 obtain⟨A,d1,rfl,hlc,hlb⟩:=h1.form;obtain⟨A',d2,rfl,hlc',hlb'⟩:=h2.form;obtain⟨x1,x2,x3⟩:=bY w [.slice A b.length d1] [.slice A' b.length d2] 38 38;have HC:=hidL (Hu S S' _ _ b _ ((RSl.fair ah.fair).below h1 x3) ((RSl.fair ah.fair).below h2 x3));clear h1 h2;go_enter func11,ntmps11;go_wp2_with fail;refine HC.out.mono ?_;rintro e w1 ⟨rfl,hb⟩;have hb1:=aa x3 hb x3.size;clear HC x1 x2 x3 hb;go_wp2;go_ret;exact⟨rfl,hb1⟩
theorem aef (S S':Nat→Prop)(v v':Value)(l:List fD)(w:World)(hl:RSl 2 48 dw S w [v] l)(hl':RSl 2 48 dw S' w [v'] l):Calls prog 39 #[v,v'] w (Ret w (.bool true)):=by
 obtain⟨A,cap,rfl,hlc,hlb⟩:=hl.form;obtain⟨A',cap',rfl,hlc',hlb'⟩:=hl'.form;have HL:=hidL hl;have HL':=hidL hl';clear hl hl';go_enter func39,ntmps39;go_wp2_with fail;go_loopw [13] (fun i wr=>∃ k:Nat,i=O k∧k≤l.length∧Below w.heap.size w wr) (fun i _=>l.length-(intOf i).toNat)
 case atStart=>exact⟨0,rfl,by omega,Below.refl _ _⟩
 case round =>
  obtain⟨k,rfl,hk,hb⟩:=hrel
  by_cases hlt:k<l.length
  ·obtain⟨g,o,es,rfl,hS,hg,hes,hr,hc⟩:=((RSl.fair dw.fair).below HL.out hb).at_ hlt;obtain⟨g',o',es',rfl,hS',hg',hes',hr',hc'⟩:=((RSl.fair dw.fair).below HL'.out hb).at_ hlt;obtain⟨p,hpe⟩:=exE (l[k]);rw[←hpe] at hr hr';clear hpe;obtain⟨vb,vp,rfl,hB,hP⟩:=hr;obtain⟨vb',vp',rfl,hB',hP'⟩:=hr';obtain⟨B1,b1,rfl,-,-⟩:=hB.form;obtain⟨B2,b2,rfl,-,-⟩:=hB'.form;obtain⟨P1,p1,rfl,-,-⟩:=hP.form;obtain⟨P2,p2,rfl,-,-⟩:=hP'.form;have hlk:(k:Int)<l.length:=by omega
   have HS:=hidL (fun W (h:Below wr.heap.size wr W)=>show (fun W'=>LL W' g (o+k*2) (.slice B1 p.book.length b1)∧LL W' g (o+k*2+1) (.slice P1 p.parents.length p1)∧LL W' g' (o'+k*2) (.slice B2 p.book.length b2)∧LL W' g' (o'+k*2+1) (.slice P2 p.parents.length p2)) W from⟨(h.cell (p:=⟨g,o+k*2,none⟩) hg).trans (hc.at_ 0 rfl),(h.cell (p:=⟨g,o+k*2+1,none⟩) hg).trans (hc.at_ 1 rfl),(h.cell (p:=⟨g',o'+k*2,none⟩) hg').trans (hc'.at_ 0 rfl),(h.cell (p:=⟨g',o'+k*2+1,none⟩) hg').trans (hc'.at_ 1 rfl)⟩);have HB:=hidL (fun W (h:Below wr.heap.size wr W)=>afE S S' _ _ p.book W ((RSl.fair ah.fair).below hB h) ((RSl.fair ah.fair).below hB' h));have HP:=hidL (fun W (h:Below wr.heap.size wr W)=>ahu S S' _ _ p.parents W ((RSl.fair aQ.fair).below hP h) ((RSl.fair aQ.fair).below hP' h));clear hc hc' hes hes' hg hg' hS hS' hB hB' hP hP';go_upto_region 6 with fail;have hw:=au (Below.refl wr.heap.size wr);have hS:=HS.out _ hw;refine aJ (fun W'=>LL W' g (o+k*2) (.slice B1 p.book.length b1)∧LL W' g (o+k*2+1) (.slice P1 p.parents.length p1)∧LL W' g' (o'+k*2) (.slice B2 p.book.length b2)∧LL W' g' (o'+k*2+1) (.slice P2 p.parents.length p2)) (fun _=>true) (by kernel_rfl) ?_;generalize wr.drew=Wd at hw hS ⊢;apply ppP 0;apply ppP 1;apply ppP 2;apply ppP 3;apply tkP 4 hS;apply ppP 5;apply ppP 6;apply ppP 7;apply ppP 8;apply tkP 9 hS
   try simp only[pu]
   refine ang 10 (fun K hK=>?_);go_simp;refine(HB.out _ hw).mono ?_;rintro e w5 ⟨rfl,hb5⟩;replace hw:=aa hw hb5 hw.size;replace hS:=HS.out _ hw;clear hb5;refine hK.out _ _ (fun _ _=>hS) ?_
   try simp only[pu]
   apply ppP 11;apply ppP 12;apply ppP 13;apply ppP 14;apply ppP 15;apply ppP 16;apply tkP 17 hS;apply ppP 18;apply ppP 19;apply ppP 20;apply ppP 21;apply tkP 22 hS
   try simp only[pu]
   refine ang 23 (fun K hK=>?_);go_simp;refine(HP.out _ hw).mono ?_;rintro e w6 ⟨rfl,hb6⟩;replace hw:=aa hw hb6 hw.size;replace hS:=HS.out _ hw;clear hb6;refine hK.out _ _ (fun _ _=>hS) ?_
   try simp only[pu]
   apply ppP 24;apply ppP 25
   try simp only[pu]
   refine anf ?_ _;have hb9:=aa hb hw hb.size;clear hw hS HS HB HP;go_wp2;go_roundw
   case rel=>exact⟨k+1,by go_num,by omega,hb9⟩
   case measure=>simp[intOf];omega
  ·go_wp2;go_ret;exact⟨rfl,hb⟩
theorem qB {S S':Nat→Prop}{row row':Option Nat}{base base' g g':Nat}{w:World}{s s':cK}(h:bS S row base w g s)(h':bS S' row' base' w g' s')(hc:s.cs=s'.cs)(hr:s.rs=s'.rs)(h1:s.cs.length≤1000)(h2:s.rs.length≤1000) :
  Calls prog 15 #[.pointer (some ⟨g,0,none⟩),.pointer (some ⟨g',0,none⟩)] w (Ret w (.bool true)):=by
 have H:=hidL (fun W (k:Below w.heap.size w W)=>yM (h.below k) h1);have H':=hidL (fun W (k:Below w.heap.size w W)=>yM (h'.below k) (hc ▸ h1));have R:=hidL (fun W (k:Below w.heap.size w W)=>Au (h.below k) h2);have R':=hidL (fun W (k:Below w.heap.size w W)=>Au (h'.below k) (hr ▸ h2));rw[←hc] at H';rw[←hr] at R';clear h h' h1 h2;go_enter func15,ntmps15;go_wp2_with fail;refine(H.out _ (Below.refl _ _)).mono ?_;rintro e w1 ⟨v1,rfl,hv1,hw1⟩;have HB1:=hidL (H'.out _ hw1);have HV1:=hidL hv1;clear hv1 H H';go_wp2_with fail;refine HB1.out.mono ?_;rintro e w2 ⟨v2,rfl,hv2,hb2⟩;have hw2:=aa hw1 hb2 hw1.size;have HX:=hidL (aef _ _ _ _ _ _ ((RSl.fair dw.fair).below HV1.out hb2) hv2);clear hw1 hb2 hv2 HB1 HV1;go_wp2_with fail;refine HX.out.mono ?_;rintro e w3 ⟨rfl,hb3⟩;have hw3:=aa hw2 hb3 hw2.size;have HC:=hidL (R.out _ hw3);clear hw2 hb3 HX;go_wp2_with fail;refine HC.out.mono ?_;rintro e w4 ⟨v4,rfl,hv4,hb4⟩;have hw4:=aa hw3 hb4 hw3.size;have HD:=hidL (R'.out _ hw4);have HV4:=hidL hv4;clear hw3 hb4 hv4 HC R R';go_wp2_with fail;refine HD.out.mono ?_;rintro e w5 ⟨v5,rfl,hv5,hb5⟩;have hw5:=aa hw4 hb5 hw4.size;have HY:=hidL (aga _ _ _ _ _ _ ((RSl.fair iG.fair).below HV4.out hb5) hv5);clear hw4 hb5 hv5 HD HV4;go_wp2_with fail;refine HY.out.mono ?_;rintro e w6 ⟨rfl,hb6⟩;have hw6:=aa hw5 hb6 hw5.size;clear hw5 hb6 HY;go_wp2;go_ret;exact⟨rfl,hw6⟩
def Far (row:Option Nat)(g:Nat)(row2:Option Nat)(g2:Nat)(S2:Nat→Prop):Prop:=g2≠g∧row≠some g2∧row2≠some g∧(∀ k,row2=some k→row≠some k)∧¬ S2 g∧∀ k,row=some k→¬ S2 k
section
variable {S S2 S':Nat→Prop}{row row2 row':Option Nat}{b1 b2 g g2:Nat}{w w':World}{s1 s2:cK}
theorem bS.touch (h:bS S2 row2 b2 w g2 s2)(ht:Touch row g w w')(hf:Far row g row2 g2 S2):bS S2 row2 b2 w' g2 s2:=by
 obtain⟨h1,h2,h3,h4,h5,h6⟩:=hf;obtain⟨vc,vr,a1,a2,a3,a4,a5,a6,a7,a8⟩:=h;refine⟨vc,vr,a1,a2.touch ht h1 h2,(RSl.fair dw.fair).keep a3 (ht.keep h5 h6),a4.air iG.fair (S:=fun y=>y≠g∧row≠some y) ⟨ht.size,fun y hy hl=>ht.block y hl hy.1 hy.2⟩ (fun k e=>⟨?_,h4 k (a1 ▸ e)⟩),a5,a6,fun y hy=>Nat.lt_of_lt_of_le (a7 y hy) ht.size,a8⟩;rintro rfl;exact h3 (a1 ▸ e)
end
end
section
open Go.Proofs.Tryz
open Go.RowKit
def KB (e:TypeId)(S:Nat→Prop)(w:World)(v:Value):Prop:=∀ a n c,v=.slice (some a) n c→∃ g zs,a=⟨g,0,none⟩∧S g∧w.heap[g]? = some (.cells zs e)
theorem KB.keep {e:TypeId}{S:Nat→Prop}{w w':World}{v:Value}(h:KB e S w v)(hk:az S w w'):KB e S w' v:=fun a n c hv=>by
 obtain⟨g,zs,ha,hs,hz⟩:=h a n c hv;exact⟨g,zs,ha,hs,(hk.2 g hs (Array.getElem?_eq_some_iff.1 hz).1).trans hz⟩
theorem KB.mono {e:TypeId}{S T:Nat→Prop}{w:World}{v:Value}(h:KB e S w v)(hm:∀ g,S g→g<w.heap.size→T g):KB e T w v:=fun a n c hv=>by
 obtain⟨g,zs,ha,hs,hz⟩:=h a n c hv;exact⟨g,zs,ha,hm g hs (Array.getElem?_eq_some_iff.1 hz).1,hz⟩
theorem Own.kb {α:Type}{base e sz:Nat}{R:Rel α}{T:Nat→Prop}{w:World}{v:Value}{xs:List α}(h:Own base e sz R T w v xs):KB e (fun g=>base≤g∧g<w.heap.size) w v:=fun a n c hv=>by
 obtain⟨css,⟨-,h1⟩,-⟩:=h;rcases h1 with ⟨h1,-⟩ | ⟨g,cap,cur,h1,hg,hz,-⟩
 ·rw[h1] at hv;cases hv
 ·rw[h1] at hv;injection hv with hv;injection hv with hv
  exact⟨g,cur,hv.symm,⟨hg,(Array.getElem?_eq_some_iff.1 hz).1⟩,hz⟩
def RTypeK:Rel ax:=fun S w cs t=>ah S w cs t∧∃ a b vf vg vi,cs=[a,b,vf,vg,vi]∧KB 55 S w vf∧KB 3 S w vg∧KB 57 S w vi
theorem RTypeK.fair:Fair RTypeK:=⟨by
  rintro S w w' cs x ⟨h,a,b,vf,vg,vi,e,h1,h2,h3⟩ hk;exact⟨ah.fair.keep h hk,a,b,vf,vg,vi,e,h1.keep hk,h2.keep hk,h3.keep hk⟩,by
  rintro S T w cs x ⟨h,a,b,vf,vg,vi,e,h1,h2,h3⟩ hm;exact⟨ah.fair.mono h hm,a,b,vf,vg,vi,e,h1.mono hm,h2.mono hm,h3.mono hm⟩⟩
def RCommitK:Rel fD:=fun S w cs c=>∃ vb vp,cs=[vb,vp]∧RSl 5 96 RTypeK S w [vb] c.book∧RSl 1 8 aQ S w [vp] c.parents∧KB 53 S w vb∧KB 3 S w vp
theorem RCommitK.fair:Fair RCommitK:=⟨by
  rintro S w w' cs x ⟨vb,vp,e,h1,h2,h3,h4⟩ hk;exact⟨vb,vp,e,(RSl.fair RTypeK.fair).keep h1 hk,(RSl.fair aQ.fair).keep h2 hk,h3.keep hk,h4.keep hk⟩,by
  rintro S T w cs x ⟨vb,vp,e,h1,h2,h3,h4⟩ hm;exact⟨vb,vp,e,(RSl.fair RTypeK.fair).mono h1 hm,(RSl.fair aQ.fair).mono h2 hm,h3.mono hm,h4.mono hm⟩⟩
def CopyPostK (w:World)(b:av)(e:Ending)(w':World):Prop:=∃ A cap,e=.returned (.agg #[.slice A b.length cap])∧RSl 5 96 RTypeK (New w) w' [.slice A b.length cap] b∧KB 53 (New w) w' (.slice A b.length cap)∧Below w.heap.size w w'
theorem copiedK_any (S:Nat→Prop)(vb:Value)(b:av)(w:World)(hb0:RSl 5 96 ah S w [vb] b) :
  Calls prog 20 #[.agg #[vb]] w (CopyPostK w b):=by
 obtain⟨A,cap,rfl,hlc,hlb⟩:=hb0.form;have HB:=hidL hb0;obtain⟨x1,x2,x3,x4⟩:=kW w [.slice A b.length cap] [Z0] [Z0] 38 38 38;clear hb0;go_enter func20,ntmps20;go_wp2_with fail;go_loopw [9] (fun i wr=>∃ (k:Nat) (vt:Value),i=O k∧k≤b.length∧Box wr w.heap.size 38 [.slice A b.length cap]∧Box wr (w.heap.size+1) 38 [Z0]∧Box wr (w.heap.size+1+1) 38 [vt]∧OG RTypeK 53 5 (w.heap.size+1+1+1) wr vt (b.take k)∧Below w.heap.size w wr) (fun i _=>b.length-(intOf i).toNat)
 case atStart=>exact⟨0,_,rfl,by omega,x1,x2,x3,OG.nil _ _ _ _ _,x4⟩
 case round =>
  clear x1 x2 x3 x4;obtain⟨k,vt,rfl,hk,hb1,hb2,hb3,hot,hb⟩:=hrel
  by_cases hlt:k<b.length
  ·obtain⟨g,o,es,rfl,hS,hg,hes,hr,hc0⟩:=HB.out.at_ hlt;have hc:=hc0.keep (az.of_below hb) hS;have hgw:g<wr.heap.size:=Nat.lt_of_lt_of_le hg hb.size;have htk:b.take (k+1)=b.take k++[b[k]]:=List.take_succ_eq_append_getElem hlt;obtain⟨t,hte⟩:=exE (b[k]);rw[←hte] at hr htk;obtain⟨A1,k1,A2,k2,A3,k3,rfl,hf,hgo,hi⟩:=hr.parts;obtain⟨_,_,hff,hflc,hflb⟩:=hf.form;obtain⟨_,_,hgg,hglc,hglb⟩:=hgo.form;obtain⟨_,_,hii,hilc,hilb⟩:=hi.form;have q0:=hc.a0 rfl;have q1:=hc.at_ 1 rfl;have q2:=hc.at_ 2 rfl;have q3:=hc.at_ 3 rfl;have q4:=hc.at_ 4 rfl;have HF:=hidL hf;have HG:=hidL hgo;have HI:=hidL hi;clear hc hc0 hte hr hf hgo hi hff hgg hii;have hbl:(b.take k).length=k:=by rw[List.length_take];omega
   obtain⟨acc,hacc⟩:=exE (b.take k);rw[←hacc] at hot htk hbl;have HTK:=hidL htk;have Hbl:=hidL hbl;clear hacc htk hbl;have hsz3:w.heap.size+1+1+1≤wr.heap.size:=by have:=hb3.lt;omega
   have hwa:=hb.alloc hb.size (.cells (TT t A1 k1 A2 k2 A3 k3).toArray 53);have b1:=hb1.alloc (.cells (TT t A1 k1 A2 k2 A3 k3).toArray 53);have b2:=hb2.alloc (.cells (TT t A1 k1 A2 k2 A3 k3).toArray 53);have b3:=hb3.alloc (.cells (TT t A1 k1 A2 k2 A3 k3).toArray 53);have hota:=hot.alloc RTypeK.fair (.cells (TT t A1 k1 A2 k2 A3 k3).toArray 53);have zb:Box (wr.alloc (.cells (TT t A1 k1 A2 k2 A3 k3).toArray 53)) wr.heap.size 53 (TT t A1 k1 A2 k2 A3 k3):=Box.new wr _ _;have hvl:∀ k,vt.ownBlock=some k→k<wr.heap.size:=fun k hk=>(hot.lt hk).2
   have Hot:=hidL hot;have hbx:Below wr.heap.size wr (wr.alloc (.cells (TT t A1 k1 A2 k2 A3 k3).toArray 53)):=(Below.refl _ _).alloc (Nat.le_refl _) _;have HB1:=hidL hb1;have HB2:=hidL hb2;have HB3:=hidL hb3;clear hb1 hb2 hb3 hot;go_wp2_with fail;have hzs:(wr.alloc (.cells (TT t A1 k1 A2 k2 A3 k3).toArray 53)).heap.size=wr.heap.size+1:=by simp
   obtain⟨X,hX⟩:=exE wr.heap.size;rw[←hX] at zb hzs hbx ⊢;have HX:=hidL hX;have hXw:w.heap.size+1+1+1≤X:=by omega
   have hzs1:X+1≤(wr.alloc (.cells (TT t A1 k1 A2 k2 A3 k3).toArray 53)).heap.size:=by omega
   have hlt3:∀ k,vt.ownBlock=some k→k<X:=fun k hk=>by rw[hX];exact hvl k hk
   generalize wr.alloc (.cells (TT t A1 k1 A2 k2 A3 k3).toArray 53)=W0 at *;clear hX hzs hb q0 q1 q2 q3 q4 hgw hvl;have HSK:=hidL (fun (W':World) (h:Box W' X 53 (TT t A1 k1 A2 k2 A3 k3))=>(⟨h.cell 2,h.cell 3,h.cell 4⟩:LL W' X 2 (.slice A1 t.fields.length k1)∧LL W' X 3 (.slice A2 t.gone.length k2)∧LL W' X 4 (.slice A3 t.items.length k3)));have hS:=HSK.out W0.drew zb.drew;refine aY (fun W'=>LL W' X 2 (.slice A1 t.fields.length k1)∧LL W' X 3 (.slice A2 t.gone.length k2)∧LL W' X 4 (.slice A3 t.items.length k3)) 10 (by kernel_rfl) ?_;apply tkL 0 hS;apply tkL 1 hS;apply tkL 3 hS;apply tkL 4 hS;apply tkL 6 hS;apply tkL 7 hS
   try simp only[pu]
   have hw0:=au hwa;have hx0:=au hbx;have hfs:=(RSl.fair aH.fair).below HF.out hw0;refine anq 2 (fun K hK=>?_);go_simp;refine(cloneField_any _ _ t.fields _ hfs).mono ?_;rintro e w1 ⟨v1,rfl,ho1,gw1⟩;replace ho1:=(Own.flat ho1).base (show X+1≤W0.drew.heap.size from hzs1);have hs1:X+1≤w1.heap.size:=Nat.le_trans hzs1 gw1.size;have z1:=zb.drew.below gw1 zb.lt;have hw1:=aa hw0 gw1 hw0.size;have hx1:=aa hx0 gw1 (show X≤W0.heap.size by omega);have hgs:=(RSl.fair aQ.fair).below HG.out hw1;have hS:=HSK.out w1 z1;refine hK.out _ _ (fun _=>hS) ?_
   try simp only[pu]
   apply tkL 9 hS
   try simp only[pu]
   refine anq 5 (fun K hK=>?_);go_simp;refine(cloneInt_any _ _ t.gone _ hgs).mono ?_;rintro e w2 ⟨v2,rfl,ho2,gw2⟩;replace ho2:=(Own.flat ho2).base hs1;have hs2:X+1≤w2.heap.size:=Nat.le_trans hs1 gw2.size;have z2:=z1.below gw2 z1.lt;have hw2:=aa hw1 gw2 hw1.size;have hx2:=aa hx1 gw2 (by omega);have ho12:=ho1.below aH.fair gw2;have his:=(RSl.fair aO.fair).below HI.out hw2;have hS:=HSK.out w2 z2;refine hK.out _ _ (fun _=>hS) ?_
   try simp only[pu]
   refine anq 8 (fun K hK=>?_);go_simp;refine(cloneItem_any _ _ t.items _ his).mono ?_;rintro e w3 ⟨v3,rfl,ho3,gw3⟩;replace ho3:=(Own.flat ho3).base hs2;have hs3:X+1≤w3.heap.size:=Nat.le_trans hs2 gw3.size;have z3:=z2.below gw3 z2.lt;have hw3:=aa hw2 gw3 hw2.size;have hx3:=aa hx2 gw3 (by omega);have ho13:=ho12.below aH.fair gw3;have ho23:=ho2.below aQ.fair gw3;have hS:=HSK.out w3 z3;obtain⟨P1,p1,rfl,-⟩:=ho13.form;obtain⟨P2,p2,rfl,-⟩:=ho23.form;obtain⟨P3,p3,rfl,-⟩:=ho3.form;refine hK.out _ _ (fun _=>hS) ?_
   try simp only[pu]
   have f2:=z3.frozen 2;have f3:=z3.frozen 3;have f4:=z3.frozen 4;have d2:=z3.c 2 rfl;have d3:=z3.c 3 rfl;have d4:=z3.c 4 rfl;have lz:=z3.lt;clear ho1 gw1 ho2 gw2 gw3 ho12 hS;refine anq 10 (fun K hK=>?_);go_simp;refine hK.out _ _ nay ?_
   try simp only[pu]
   refine anq 11 (fun K hK=>?_);go_simp;refine hK.out _ _ nay ?_
   try simp only[pu]
   refine anq 12 (fun K hK=>?_);go_simp;refine hK.out _ _ nay ?_
   try simp only[pu]
   refine anq 13 (fun K hK=>?_);go_simp;refine hK.out _ _ nay ?_
   try simp only[pu]
   refine anq 14 (fun K hK=>?_);go_simp;refine hK.out _ _ nay ?_
   try simp only[pu]
   refine ani ?_ _;have hrt:RTypeK (fun g=>X+1≤g∧g<w3.heap.size) w3 (TT t P1 p1 P2 p2 P3 p3) t :=
    ⟨⟨_,_,_,rfl,ho13.read aH.fair (fun _ h _=>h.elim) (fun k hk=>ho13.lt hk) (by omega),ho23.read aQ.fair (fun _ h _=>h.elim) (fun k hk=>ho23.lt hk) (by omega),ho3.read aO.fair (fun _ h _=>h.elim) (fun k hk=>ho3.lt hk) (by omega)⟩,_,_,_,_,_,rfl,ho13.kb,ho23.kb,ho3.kb⟩
   have hrF:=RTypeK.fair.keep hrt (((az.setCell w3 (a:=⟨X,2,none⟩) (.slice P1 t.fields.length p1) (by show ¬ (X+1≤X∧_);omega)).trans (az.setCell _ (a:=⟨X,3,none⟩) (.slice P2 t.gone.length p2) (by show ¬ (X+1≤X∧_);omega))).trans (az.setCell _ (a:=⟨X,4,none⟩) (.slice P3 t.items.length p3) (by show ¬ (X+1≤X∧_);omega)));have zF:=((z3.gB 2 (.slice P1 t.fields.length p1)).gB 3 (.slice P2 t.gone.length p2)).gB 4 (.slice P3 t.items.length p3);simp only[List.set_cons_zero,List.set_cons_succ] at zF;have hxF:=((hx3.setCell (p:=⟨X,2,none⟩) (Nat.le_refl X) (.slice P1 t.fields.length p1)).setCell (p:=⟨X,3,none⟩) (Nat.le_refl X) (.slice P2 t.gone.length p2)).setCell (p:=⟨X,4,none⟩) (Nat.le_refl X) (.slice P3 t.items.length p3);have hwF:=((hw3.setCell (p:=⟨X,2,none⟩) (by show w.heap.size≤X;omega) (.slice P1 t.fields.length p1)).setCell (p:=⟨X,3,none⟩) (by show w.heap.size≤X;omega) (.slice P2 t.gone.length p2)).setCell (p:=⟨X,4,none⟩) (by show w.heap.size≤X;omega) (.slice P3 t.items.length p3);have hsF:w3.heap.size≤(((w3.setCell ⟨X,2,none⟩ (.slice P1 t.fields.length p1)).setCell ⟨X,3,none⟩ (.slice P2 t.gone.length p2)).setCell ⟨X,4,none⟩ (.slice P3 t.items.length p3)).heap.size:=by simp[World.setCell]
   generalize ((w3.setCell ⟨X,2,none⟩ (.slice P1 t.fields.length p1)).setCell ⟨X,3,none⟩ (.slice P2 t.gone.length p2)).setCell ⟨X,4,none⟩ (.slice P3 t.items.length p3)=WF at *;have hotF:OG RTypeK 53 5 (w.heap.size+1+1+1) WF vt acc:=Hot.out.below RTypeK.fair (by rw[←HX.out];exact hxF);have b1:=HB1.out.below hxF (by omega);have b2:=HB2.out.below hxF (by omega);have b3:=HB3.out.below hxF (by omega);obtain⟨T,g1,g2,g3⟩:=(hotF.alloc RTypeK.fair (.cells (TT t P1 p1 P2 p2 P3 p3).toArray 53)).take RTypeK.fair (p:=X+1) (q:=w3.heap.size) (RTypeK.fair.keep hrF (az.alloc _ WF _)) (by omega) (by simp;omega) (fun k hk=>.inl (by have:=hlt3 k hk;omega));obtain⟨Dt,dt,rfl,hdt⟩:=hotF.form;have G1:=hidL g1;have G2:=hidL g2;have G3:=hidL g3;have d0:=zF.c 0 rfl;have d1:=zF.c 1 rfl;have d2:=zF.c 2 rfl;have d3:=zF.c 3 rfl;have d4:=zF.c 4 rfl;have dl:=zF.lt;have m0:=b3.c 0 rfl;have ml:=b3.lt;clear hrt hrF z3 zF hxF hx3 hw3 hotF g1 g2 g3 ho13 ho23 ho3 his hgs hfs f2 f3 f4 lz hs1 hs2 hs3 z1 z2 zb hx0 hx1 hx2 hw0 hw1 hw2 hbx hwa hota;go_wp2_with (at_builtin;go_must (refine bv _ rfl (.tmp 26) (.tmp 28) rfl QR RTypeK.fair rfl rfl G2.out (Src.one (es:=(TT t P1 p1 P2 p2 P3 p3)) (y:=t) rfl (gI.bK rfl) G3.out (ik.new _ _ _)) (fun g h=>(G1.out g h).2) ?_ ?_ ?_))
   ·simp only[Hbl.out,List.length_cons,List.length_nil];omega
   ·simp only[World.size_alloc];omega
   ·intro v9 w9 ho9 hg9 hv9;obtain⟨A9,c9,rfl,-⟩:=ho9.form;simp only[List.length_append,List.length_cons,List.length_nil,Nat.zero_add] at ho9 hv9;have hot9:=OG.made G1.out hg9 ho9;have b19:=(b1.alloc (.cells (TT t P1 p1 P2 p2 P3 p3).toArray 53)).fU G2.out (.inl (by omega)) hg9;have b29:=(b2.alloc (.cells (TT t P1 p1 P2 p2 P3 p3).toArray 53)).fU G2.out (.inl (by omega)) hg9;have b39:=(b3.alloc (.cells (TT t P1 p1 P2 p2 P3 p3).toArray 53)).fU G2.out (.inl (by omega)) hg9;have hb9:=below_grown (hwF.alloc hwF.size (.cells (TT t P1 p1 P2 p2 P3 p3).toArray 53)) hg9 (by simp only[World.size_alloc];have:=hwF.size;omega) (fun g' h=>by have:=(G2.out.lt h).1;omega);have k0:=b39.c 0 rfl;have kf:=b39.frozen 0;have kl:=b39.lt;clear hg9 hv9 ho9 b1 b2 b3 m0 ml d0 d1 d2 d3 d4 dl hwF;go_wp2;go_roundw
    case rel =>
     have h100:=b39.gB 0 (.slice A9 (acc.length+1) c9);simp only[List.set_cons_zero] at h100;refine⟨k+1,_,by go_num,by omega,b19.far (p:=⟨w.heap.size+1+1,0,none⟩) (by show w.heap.size≠w.heap.size+1+1;omega) _,b29.far (p:=⟨w.heap.size+1+1,0,none⟩) (by show w.heap.size+1≠w.heap.size+1+1;omega) _,h100,?_,hb9.setCell (p:=⟨w.heap.size+1+1,0,none⟩) (by show w.heap.size≤w.heap.size+1+1;omega) _⟩;rw[HTK.out];exact hot9.setCell RTypeK.fair (p:=⟨w.heap.size+1+1,0,none⟩) _ (by show w.heap.size+1+1<_;omega)
    case measure=>simp[intOf];omega
  ·have hkb:k=b.length:=by omega
   subst hkb;rw[List.take_length] at hot;have c2:=hb3.c 0 rfl;have l2:=hb3.lt;have f2:=hb2.frozen 0;have l3:=hb2.lt;have c3:=hb2.c 0 rfl;obtain⟨A',c',rfl,hc'⟩:=hot.form;have h2:=hb2.gB 0 (.slice A' b.length c');simp only[List.set_cons_zero] at h2;have H2:=hidL h2;have hof:=hot.setCell RTypeK.fair (p:=⟨w.heap.size+1,0,none⟩) (.slice A' b.length c') (by show w.heap.size+1<_;omega);have HR:=hidL (And.intro (hof.read RTypeK.fair (S:=New w) (fun g hg=>by show w.heap.size≤g;omega) hlb) ((show KB 53 (New w) _ _ from by obtain⟨_,_,h⟩:=hof;exact h.kb.mono (fun g h _=>by have:=h.1;show w.heap.size≤g;omega))));have HW:=hidL (hb.setCell (p:=⟨w.heap.size+1,0,none⟩) (by show w.heap.size≤w.heap.size+1;omega) (.slice A' b.length c'));clear hb1 hb2 hb3 hot hb h2;go_wp2_with fail;exact bodyPost_ret (Bi H2.out rfl) rfl ⟨_,_,rfl,HR.out.1,HR.out.2,HW.out⟩
theorem commitsK_any {S:Nat→Prop}{row:Option Nat}{base g:Nat}{w:World}{s:cK}(h:bS S row base w g s)(hn:s.cs.length≤1000) :
  Calls prog 8 #[.pointer (some ⟨g,0,none⟩)] w (fun e w'=>∃ v,e=.returned v∧RSl 2 48 RCommitK (New w) w' [v] s.cs∧KB 44 (New w) w' v∧Below w.heap.size w w'):=by
 obtain⟨AC,cc,hcs,hg0⟩:=h.row0;obtain⟨g0,hgl⟩:=hg0 _ (Below.refl _ _);have HC:=hidL hcs;obtain⟨l,hl⟩:=exE s.cs;rw[←hl] at HC g0 hn ⊢;have Hn:=hidL hn;clear hcs hg0 h hl hn;go_enter func8,ntmps8;go_wp2_with fail;go_loopw [13,3] (fun i v wr=>∃ k:Nat,i=O k∧k≤l.length∧OG RCommitK 44 2 w.heap.size wr v (l.take k)∧Below w.heap.size w wr) (fun i _ _=>l.length-(intOf i).toNat)
 case atStart=>exact⟨0,rfl,by omega,OG.nil _ _ _ _ _,Below.refl _ _⟩
 case round =>
  clear g0 hgl;obtain⟨k,rfl,hk,hot,hb⟩:=hrel
  by_cases hlt:k<l.length
  ·obtain⟨gL,oL,rfl,hS,hgL⟩:=HC.out.base (by omega);obtain⟨P,p,Q,q,hrb,hrp,hat⟩:=Ls HC.out hlt;obtain⟨q0,q1,ql⟩:=hat _ hb;have htk:l.take (k+1)=l.take k++[l[k]]:=List.take_succ_eq_append_getElem hlt;obtain⟨c,hce⟩:=exE (l[k]);rw[←hce] at hrb hrp q0 q1 htk;have hbl:(l.take k).length=k:=by rw[List.length_take];omega
   obtain⟨acc,hacc⟩:=exE (l.take k);rw[←hacc] at hot htk hbl;have HTK:=hidL htk;have Hbl:=hidL hbl;have Hlt:=hidL hlt;have Hrb:=hidL hrb;have Hrp:=hidL hrp;obtain⟨A0,m0,rfl,-⟩:=hot.form;have Hot:=hidL hot;have hki:(k:Int)<l.length:=by omega
   have hwa:=hb.alloc hb.size (.cells #[.slice P c.book.length p,.slice Q c.parents.length q] 44);have zb:Box (wr.alloc (.cells #[.slice P c.book.length p,.slice Q c.parents.length q] 44)) wr.heap.size 44 [.slice P c.book.length p,.slice Q c.parents.length q]:=Box.new wr _ _;have hbx:Below wr.heap.size wr (wr.alloc (.cells #[.slice P c.book.length p,.slice Q c.parents.length q] 44)):=(Below.refl _ _).alloc (Nat.le_refl _) _;clear htk hbl hacc hce hat hrb hrp hot hS hgL;go_upto_region 7 with fail;have hzs:(wr.alloc (.cells #[.slice P c.book.length p,.slice Q c.parents.length q] 44)).heap.size=wr.heap.size+1:=by simp
   obtain⟨X,hX⟩:=exE wr.heap.size;rw[←hX] at zb hzs hbx ⊢;have Hx:=hidL (show w.heap.size≤X∧X+1≤(wr.alloc (.cells #[.slice P c.book.length p,.slice Q c.parents.length q] 44)).heap.size by have:=hb.size;omega);have Hox:=hidL (fun k (h:(Value.slice A0 acc.length m0).ownBlock=some k)=>show k<X by rw[hX];exact(Hot.out.lt h).2);have HX:=hidL hX;generalize wr.alloc (.cells #[.slice P c.book.length p,.slice Q c.parents.length q] 44)=W0 at *;clear hX hzs q0 q1 ql hb;have hS:(fun W'=>LL W' X 0 (.slice P c.book.length p)∧LL W' X 1 (.slice Q c.parents.length q)) W0.drew:=⟨zb.cell 0,zb.cell 1⟩;have hw:=au (Below.here W0);have hHS:=hidL (fun W (h:Below W0.heap.size W0 W)=>show (fun W'=>LL W' X 0 (.slice P c.book.length p)∧LL W' X 1 (.slice Q c.parents.length q)) W from⟨(zb.below h zb.lt).cell 0,(zb.below h zb.lt).cell 1⟩);clear zb;refine aJ (fun W'=>LL W' X 0 (.slice P c.book.length p)∧LL W' X 1 (.slice Q c.parents.length q)) (fun i=>decide (i<9)) (by kernel_rfl) ?_;generalize W0.drew=Wd at hS hw ⊢;apply ppP 0;apply ppP 1;apply tkP 2 hS;apply ppP 4;apply tkP 5 hS
   try simp only[pu]
   refine ang 3 (fun K hK=>?_);go_simp;refine(copiedK_any S _ c.book Wd ((RSl.fair ah.fair).below Hrb.out (aa hwa hw hwa.size))).mono ?_;rintro e w5 ⟨A5,c5,rfl,hr5,hk5,hb5⟩;have hw5:=aa hw hb5 hw.size;replace hS:=hHS.out _ hw5;refine hK.out _ _ (fun _ _=>hS) ?_
   try simp only[pu]
   refine ang 6 (fun K hK=>?_);go_simp;refine(cloneInt_any S _ c.parents w5 ((RSl.fair aQ.fair).below Hrp.out (aa hwa hw5 hwa.size))).mono ?_;rintro e w6 ⟨v6,rfl,ho6,hb6⟩;have hw6:=aa hw5 hb6 hw5.size;replace hS:=hHS.out _ hw6;have ho6:=Own.flat ho6;obtain⟨A6,c6,rfl,hc6⟩:=ho6.form;have hsz:X+1≤Wd.heap.size∧Wd.heap.size≤w5.heap.size∧w5.heap.size≤w6.heap.size:=⟨Nat.le_trans Hx.out.2 hw.size,hb5.size,hb6.size⟩;obtain⟨_,_,hpp,hpl,hpb⟩:=Hrp.out.form;have hrc:RCommitK (fun y=>X+1≤y∧y<w6.heap.size) w6 [.slice A5 c.book.length c5,.slice A6 c.parents.length c6] c :=
    ⟨_,_,rfl,(RSl.fair RTypeK.fair).mono ((RSl.fair RTypeK.fair).below hr5 hb6) (fun y h k=>⟨Nat.le_trans hsz.1 h,k⟩),ho6.read aQ.fair (fun _ h=>h.elim) (fun k hk=>⟨by have:=(ho6.lt hk).1;omega,(ho6.lt hk).2⟩) (by omega),(hk5.keep (az.of_below hb6)).mono (fun y h k=>⟨Nat.le_trans hsz.1 h,k⟩),ho6.kb.mono (fun y h k=>⟨by have:=h.1;omega,k⟩)⟩
   clear hpp hpl hpb ho6 hr5 hk5;refine hK.out _ _ (fun _ _=>hS) ?_
   try simp only[pu]
   apply ppP 7
   try simp only[pu]
   refine ang 8 (fun K hK=>?_);go_simp;have hot6:=Hot.out.below RCommitK.fair (by rw[←HX.out];exact aa hbx hw6 (Nat.le_trans (Nat.le_succ X) Hx.out.2));obtain⟨T,g1,g2,g3⟩:=(hot6.alloc RCommitK.fair (.cells #[.slice A5 c.book.length c5,.slice A6 c.parents.length c6] 44)).take RCommitK.fair (p:=X+1) (q:=w6.heap.size) (RCommitK.fair.keep hrc (az.alloc _ w6 _)) (by have:=Hx.out.1;omega) (by simp) (fun k hk=>.inl (by have:=Hox.out k hk;omega));have hX2:=Box.new w6 44 [.slice A5 c.book.length c5,.slice A6 c.parents.length c6];have hw7:=hw6.alloc hw6.size (.cells #[.slice A5 c.book.length c5,.slice A6 c.parents.length c6] 44);replace hS:=hHS.out _ hw7;have hwb:Below w.heap.size w (w6.alloc (.cells #[.slice A5 c.book.length c5,.slice A6 c.parents.length c6] 44)):=aa hwa hw7 hwa.size;refine hK.out _ _ (fun _ _=>hS) ?_
   try simp only[pu]
   clear hrc hot6 hb5 hb6 hw5 hw6 hsz;generalize w6.heap.size=Y at hX2 ⊢;generalize World.alloc w6 _=w7 at hX2 hw7 hS hwb g1 g2 g3 ⊢;refine ang 9 (fun K hK=>?_);refine dM _ rfl (.tmp 17) (.tmp 25) rfl GX RCommitK.fair rfl rfl g2 (Src.one (es:=[.slice A5 c.book.length c5,.slice A6 c.parents.length c6]) (y:=c) rfl (gI.bK rfl) g3 hX2.lies) (fun g h=>(g1 g h).2) (by have:=Hn.out;have:=Hbl.out;have:=Hlt.out;go_light;simp;omega) hwb.size ?_;intro v9 w9 ho9 hg9 hv9;have hot9:=OG.made g1 hg9 ho9;have hb9:=below_grown hwb hg9 hwb.size (fun g' h=>by go_light;exact(g2.lt h).1);clear ho9 hg9 hv9 g1 g2 g3 hX2 hw7 hwb;refine hK.out _ _ nay ?_
   try simp only[pu]
   apply ppP 10
   try simp only[pu]
   refine anf ?_ _;clear hS hHS;rw[←HTK.out] at hot9;have hn2:=Hn.out;go_wp2;go_roundw
   case rel=>exact⟨k+1,by go_num,Hlt.out,hot9,hb9⟩
   case measure=>simp[intOf];omega
  ·have hkb:k=l.length:=by omega
   subst hkb;rw[List.take_length] at hot;have HO:=hidL (And.intro (hot.read RCommitK.fair (S:=New w) (by_:=48) (fun g hg=>hg) (by have:=Hn.out;omega)) (show KB 44 (New w) _ _ from by obtain⟨_,_,h⟩:=hot;exact h.kb.mono (fun g h _=>h.1)));clear hot;go_wp2;go_ret;exact⟨_,rfl,HO.out.1,HO.out.2,hb⟩
def Sp (B:Nat)(w0 w:World):Prop:=Below B w0 w∧∀ g k zs,Box w0 g k zs→∃ zs',Box w g k zs'∧zs'.length=zs.length∧(k=53→∀ j,j % 5≠0→zs'[j]? = zs[j]?)∧(k=44→zs'=zs)
section
variable {B g k i:Nat}{a b c:World}{zs zs':List Value}
theorem Sp.refl (B:Nat)(w:World):Sp B w w:=⟨Below.refl _ _,fun _ _ zs h=>⟨zs,h,rfl,fun _ _ _=>rfl,fun _=>rfl⟩⟩
theorem Sp.trans (h:Sp B a b)(h2:Sp B b c):Sp B a c:=⟨h.1.trans h2.1,fun g k zs hb=>by
 obtain⟨z1,b1,l1,c1,d1⟩:=h.2 g k zs hb;obtain⟨z2,b2,l2,c2,d2⟩:=h2.2 g k z1 b1;exact⟨z2,b2,l2.trans l1,fun e j hj=>(c2 e j hj).trans (c1 e j hj),fun e=>(d2 e).trans (d1 e)⟩⟩
theorem Sp.of_below (h:Below b.heap.size b c)(hB:B≤b.heap.size):Sp B b c:=⟨h.mono hB,fun _ _ zs hb=>⟨zs,hb.below h hb.lt,rfl,fun _ _ _=>rfl,fun _=>rfl⟩⟩
theorem Sp.size (h:Sp B a b):a.heap.size≤b.heap.size:=h.1.size
theorem Sp.then (h:Sp B a b)(hb:Below b.heap.size b c)(hB:B≤a.heap.size):Sp B a c:=h.trans (Sp.of_below hb (Nat.le_trans hB h.size))
theorem Box.inj {k2:Nat}(h:Box a g k zs)(h2:Box a g k2 zs'):k2=k∧zs'=zs:=by
 have h3:some (Obj.cells zs'.toArray k2 (0,0))=some (Obj.cells zs.toArray k (0,0)):=h2.symm.trans h;injection h3 with h3;injection h3 with h4 h5
 exact⟨h5,by simpa using congrArg Array.toList h4⟩
theorem Sp.set (h:Sp B a b)(hx:Box b g k zs)(hB:B≤g)(h1:k≠44)(h2:k=53→i % 5=0)(v:Value):Sp B a (b.setCell ⟨g,i,none⟩ v):=⟨h.1.setCell (p:=⟨g,i,none⟩) hB v,fun g' k' z' hb=>by
 obtain⟨z1,b1,l1,c1,d1⟩:=h.2 g' k' z' hb
 by_cases e:g'=g
 ·subst e;obtain⟨rfl,rfl⟩:=hx.inj b1;refine⟨z1.set i v,b1.gB i v,by simpa using l1,fun e j hj=>?_,fun e=>absurd e h1⟩;have hi:=h2 e;rw[List.getElem?_set_ne (fun e=>by rw[e] at hi;exact hj hi)];exact c1 e j hj
 ·exact⟨z1,b1.far (p:=⟨g,i,none⟩) e v,l1,c1,d1⟩⟩
theorem KB.box {e:TypeId}{S:Nat→Prop}{n m:Nat}{g o:Nat}(h:KB e S a (.slice (some ⟨g,o,none⟩) n m)):o=0∧∃ zs,Box a g e zs:=by
 obtain⟨g',z,he,-,hz⟩:=h _ _ _ rfl;injection he with e1 e2
 subst e1 e2;exact⟨rfl,z.toList,by show _=_;rw[hz]⟩
theorem Sp.leaf {α:Type}{R:Rel α}{sz by_ n m j:Nat}{e:TypeId}{A:Option Addr}{xs:List α}{S:Nat→Prop}(hsp:Sp B a b)(h:RSl sz by_ R S a [.slice A n m] xs)(hk:KB e S a (.slice A n m))(hS:∀ g,S g→B≤g)(hi:i<xs.length)(hj:j<sz) :
  ∃ g zs u,A=some ⟨g,0,none⟩∧B≤g∧Box b g e zs∧b.cell? ⟨g,i*sz+j,none⟩=some u:=by
 obtain⟨g,o,es,rfl,hSg,-,hl,-,hlies⟩:=h.at_ hi;obtain⟨rfl,zs,hz⟩:=hk.box;obtain⟨z1,b1,l1,-,-⟩:=hsp.2 _ _ _ hz;have h1:=hlies j (by omega);rw[Nat.zero_add,hz.cell,List.getElem?_eq_getElem (by omega:j<es.length)] at h1;have h2:i*sz+j<zs.length:=(List.getElem?_eq_some_iff.1 h1).1;exact⟨g,z1,_,rfl,hS _ hSg,b1,by rw[b1.cell,List.getElem?_eq_getElem (by omega:i*sz+j<z1.length)]⟩
theorem Sp.type {n m:Nat}{A:Option Addr}{ts:List ax}{S:Nat→Prop}(h:RSl 5 96 RTypeK S a [.slice A n m] ts)(hk:KB 53 S a (.slice A n m))(hS:∀ g,S g→B≤g)(hi:i<ts.length) :
  ∃ g P1 p1 P2 p2 P3 p3,A=some ⟨g,0,none⟩∧B≤g∧(∀ b,Sp B a b→∃ zs u,Box b g 53 zs∧b.cell? ⟨g,i*5,none⟩=some u∧b.cell? ⟨g,i*5+2,none⟩=some (.slice P1 ts[i].fields.length p1)∧b.cell? ⟨g,i*5+3,none⟩=some (.slice P2 ts[i].gone.length p2)∧b.cell? ⟨g,i*5+4,none⟩=some (.slice P3 ts[i].items.length p3)) ∧
   RSl 5 56 aH S a [.slice P1 ts[i].fields.length p1] ts[i].fields∧RSl 1 8 aQ S a [.slice P2 ts[i].gone.length p2] ts[i].gone∧RSl 2 24 aO S a [.slice P3 ts[i].items.length p3] ts[i].items∧KB 55 S a (.slice P1 ts[i].fields.length p1)∧KB 3 S a (.slice P2 ts[i].gone.length p2)∧KB 57 S a (.slice P3 ts[i].items.length p3):=by
 have h0:=h;obtain⟨g,o,es,rfl,hSg,-,hl,⟨hr,x1,x2,x3,x4,x5,e5,k1,k2,k3⟩,hlies⟩:=h.at_ hi;obtain⟨rfl,zs,hz⟩:=hk.box;obtain⟨P1,p1,P2,p2,P3,p3,rfl,f1,f2,f3⟩:=hr.parts;injection e5 with _ e5;injection e5 with _ e5;injection e5 with e1 e5;injection e5 with e2 e5;injection e5 with e3 _
 subst e1 e2 e3;refine⟨g,P1,p1,P2,p2,P3,p3,rfl,hS _ hSg,fun b hsp=>?_,f1,f2,f3,k1,k2,k3⟩;obtain⟨g',z2,u,e,-,hb,hu⟩:=hsp.leaf (j:=0) h0 hk hS hi (by decide);injection e with e;injection e with e;subst e
 obtain⟨z1,b1,l1,c1,-⟩:=hsp.2 _ _ _ hz;have hc:∀ j v,0<j→j<5→a.cell? ⟨g,0+i*5+j,none⟩=some v→b.cell? ⟨g,i*5+j,none⟩=some v:=fun j v h1 h2 h3=>by
  rw[Nat.zero_add,hz.cell] at h3;rw[b1.cell,c1 rfl _ (by omega)];exact h3
 exact⟨z2,u,hb,hu,hc 2 _ (by decide) (by decide) (hlies.at_ 2 rfl),hc 3 _ (by decide) (by decide) (hlies.at_ 3 rfl),hc 4 _ (by decide) (by decide) (hlies.at_ 4 rfl)⟩
theorem Sp.commit {n m:Nat}{A:Option Addr}{cs:List fD}{S:Nat→Prop}(h:RSl 2 48 RCommitK S a [.slice A n m] cs)(hk:KB 44 S a (.slice A n m))(hi:i<cs.length) :
  ∃ g P p Q q,A=some ⟨g,0,none⟩∧(∀ b,Sp B a b→g<b.heap.size∧b.cell? ⟨g,i*2,none⟩=some (.slice P cs[i].book.length p)∧b.cell? ⟨g,i*2+1,none⟩=some (.slice Q cs[i].parents.length q)) ∧
   RSl 5 96 RTypeK S a [.slice P cs[i].book.length p] cs[i].book∧RSl 1 8 aQ S a [.slice Q cs[i].parents.length q] cs[i].parents∧KB 53 S a (.slice P cs[i].book.length p)∧KB 3 S a (.slice Q cs[i].parents.length q):=by
 obtain⟨g,o,es,rfl,hSg,-,hl,⟨vb,vp,rfl,h1,h2,h3,h4⟩,hlies⟩:=h.at_ hi;obtain⟨rfl,zs,hz⟩:=hk.box;obtain⟨P,p,rfl,-,-⟩:=h1.form;obtain⟨Q,q,rfl,-,-⟩:=h2.form;refine⟨g,P,p,Q,q,rfl,fun b hsp=>?_,h1,h2,h3,h4⟩;obtain⟨z1,b1,-,-,d1⟩:=hsp.2 _ _ _ hz;obtain rfl:=d1 rfl;have e0:a.cell? ⟨g,i*2,none⟩=some (.slice P cs[i].book.length p):=by simpa using hlies.at_ 0 rfl
 have e1:a.cell? ⟨g,i*2+1,none⟩=some (.slice Q cs[i].parents.length q):=by simpa using hlies.at_ 1 rfl
 rw[hz.cell] at e0 e1;exact⟨b1.lt,by rw[b1.cell];exact e0,by rw[b1.cell];exact e1⟩
end
theorem refsK_any {S:Nat→Prop}{row:Option Nat}{base g:Nat}{w:World}{s:cK}(h:bS S row base w g s)(hn:s.rs.length≤1000) :
  Calls prog 16 #[.pointer (some ⟨g,0,none⟩)] w (fun e w'=>∃ v,e=.returned v∧RSl 3 32 iG (New w) w' [v] s.rs∧KB 61 (New w) w' v∧Below w.heap.size w w'):=by
 obtain⟨vc,vr,-,h2,-,h4,-⟩:=h;have hr:RSl 3 32 iG (fun _=>True) w [vr] s.rs:=h4.read iG.fair (fun _ _ _=>trivial) (fun _ _=>trivial) (by omega);have hc:=hidL (cloneRef_any _ vr s.rs w hr);have c1:=h2.c 1 rfl;have hl:=h2.lt;obtain⟨A,cap,rfl,-⟩:=h4.form;clear h2 h4 hr;go_enter func16,ntmps16;go_wp2_with fail;refine hc.out.mono ?_;rintro e w1 ⟨v1,rfl,ho,hb⟩;go_wp2;go_ret;exact⟨_,rfl,ho.flat.read iG.fair (fun _ h=>False.elim h) (fun k e=>(ho.lt e).1) (by omega),ho.kb.mono (fun y h _=>h.1),hb⟩
end
end Go.Proofs.YtknnhpkjgnkcdaaGreatDoor
