/- The walk of the statement TopEnds, and what it leans on. -/
import Derived.Test.YthhldfpmhmocfaaGreatDoorTops
set_option linter.all false
set_option maxRecDepth 100000
set_option maxHeartbeats 8000000
namespace Go.Proofs.YthhldfpmhmocfaaGreatDoor
open Go.Proofs.Tryz Go.RowKit
theorem xK:prog.eqGuardType prog.depth 74=false:=by kernel_rfl
theorem yQ:prog.underlying 74=some (.struct (prog.fieldsOf 74)):=by kernel_rfl
theorem Fa:prog.stoodInHeld 74=false:=by kernel_rfl
theorem uO (p:ay)(W:World):(binOp .neq 72 (.agg #[.int .i64 p.id,.string p.name,.string p.type,.int .i64 p.kind,.int .i64 p.rule]) (.agg #[.int .i64 p.id,.string p.name,.string p.type,.int .i64 p.kind,.int .i64 p.rule])).run prog W=.ok (.bool false) W:=by
 have h:=run_equalIn_agg (P:=prog) W 9999 72 #[.int .i64 p.id,.string p.name,.string p.type,.int .i64 p.kind,.int .i64 p.rule] #[.int .i64 p.id,.string p.name,.string p.type,.int .i64 p.kind,.int .i64 p.rule] oI rR;rw[run_neq_struct,h];simp[go_sem]
theorem wJ (p:dC)(W:World):(binOp .neq 74 (.agg #[.string p.name,.int .i64 p.n]) (.agg #[.string p.name,.int .i64 p.n])).run prog W=.ok (.bool false) W:=by
 have h:=run_equalIn_agg (P:=prog) W 9999 74 #[.string p.name,.int .i64 p.n] #[.string p.name,.int .i64 p.n] yQ Fa;rw[run_neq_struct,h];simp[go_sem]
theorem Xt (p:gD)(W:World):(binOp .neq 37 (.agg #[.string p.name,.int .i64 p.commit,.int .i64 p.policy]) (.agg #[.string p.name,.int .i64 p.commit,.int .i64 p.policy])).run prog W=.ok (.bool false) W:=by
 have h:=run_equalIn_agg (P:=prog) W 9999 37 #[.string p.name,.int .i64 p.commit,.int .i64 p.policy] #[.string p.name,.int .i64 p.commit,.int .i64 p.policy] (show prog.underlying 37=some (.struct (prog.fieldsOf 37)) by kernel_rfl) (show prog.stoodInHeld 37=false by kernel_rfl);rw[run_neq_struct,h];simp[go_sem]
theorem Tn.fair:Fair Tn:=dS.fair _
theorem eqs:(∀ (S S':Nat→Prop)(v v':Value)(l:List ay)(w:World),RSl 5 56 aH S w [v] l→RSl 5 56 aH S' w [v'] l→Calls prog 106 #[v,v'] w (Ret w (.bool true)))∧
  (∀ (S S':Nat→Prop)(v v':Value)(l:List Int)(w:World),RSl 1 8 aQ S w [v] l→RSl 1 8 aQ S' w [v'] l→Calls prog 107 #[v,v'] w (Ret w (.bool true)))∧
  (∀ (S S':Nat→Prop)(v v':Value)(l:List dC)(w:World),RSl 2 24 aO S w [v] l→RSl 2 24 aO S' w [v'] l→Calls prog 108 #[v,v'] w (Ret w (.bool true)))∧
  (∀ (S S':Nat→Prop)(v v':Value)(l:List gD)(w:World),RSl 3 32 iG S w [v] l→RSl 3 32 iG S' w [v'] l→Calls prog 64 #[v,v'] w (Ret w (.bool true)))∧
  (∀ (S S':Nat→Prop)(v v':Value)(l:List Int)(w:World),RSl 1 8 aQ S w [v] l→RSl 1 8 aQ S' w [v'] l→Calls prog 24 #[v,v'] w (Ret w (.bool true))):=by
 have hgd:prog.eqGuardType prog.depth 72=false:=by kernel_rfl
 have hg3:prog.eqGuardType prog.depth 37=false:=by kernel_rfl
 have hg4:=xK;refine⟨?_,?_,?_,?_,?_⟩
 all_goals (intro S S' v v' l w hl hl';obtain⟨A,cap,rfl,hlc,hlb⟩:=hl.form;obtain⟨A',cap',rfl,hlc',hlb'⟩:=hl'.form;have HL:=hidL hl;have HL':=hidL hl';clear hl hl')
 go_enter func106,ntmps106;rotate_left
 go_enter func107,ntmps107;rotate_left
 go_enter func108,ntmps108;rotate_left
 go_enter func64,ntmps64;rotate_left
 go_enter func24,ntmps24;rotate_left
 all_goals as_aux_lemma =>
  go_wp2_with fail;go_loopw [13] (fun i wr=>∃ k:Nat,i=.int .i64 k∧k≤l.length∧Below w.heap.size w wr) (fun i _=>l.length-(intOf i).toNat)
  case atStart=>exact⟨0,rfl,by omega,Below.refl _ _⟩
  case round =>
   obtain⟨k,rfl,hk,hb⟩:=hrel
   by_cases hlt:k<l.length
   ·obtain⟨g,o,es,rfl,hS,hg,hes,hr,hc⟩:=((RSl.fair (dS.fair _)).below HL.out hb).at_ hlt;obtain⟨g',o',es',rfl,hS',hg',hes',hr',hc'⟩:=((RSl.fair (dS.fair _)).below HL'.out hb).at_ hlt;obtain⟨p,hpe⟩:=exE (l[k]);rw[←hpe] at hr hr';clear hpe;obtain rfl:es=_:=hr;obtain rfl:es'=_:=hr';have c0:=hc.at_ 0 rfl;have d0:=hc'.at_ 0 rfl;simp only[Nat.add_zero,Nat.mul_one] at c0 d0;try have c1:=hc.at_ 1 rfl;have d1:=hc'.at_ 1 rfl
    try have c2:=hc.at_ 2 rfl;have d2:=hc'.at_ 2 rfl
    try have c3:=hc.at_ 3 rfl;have d3:=hc'.at_ 3 rfl
    try have c4:=hc.at_ 4 rfl;have d4:=hc'.at_ 4 rfl
    first|have hneq:=uO p|have hneq:=wJ p|have hneq:=Xt p|skip
    clear hc hc' hes hes' hg hg' hS hS';go_wp2_with fail
    go_quiet (fail)
    go_wp2_with fail;go_roundw
    case rel=>exact⟨k+1,by go_num,by omega,below_drewN hb _⟩
    case measure=>simp[intOf];omega
   ·go_wp2_with fail;go_ret;exact⟨rfl,hb⟩
theorem Ck:∀ (l:List UInt8),Lib.compareBytes l l=0
 | []=>by simp[Lib.compareBytes]
 | a::l=>by
  unfold Lib.compareBytes;have h:¬ a<a:=UInt8.lt_irrefl a;rw[if_neg h,if_neg h];exact Ck l
theorem agw (S S':Nat→Prop)(cs cs':List Value)(t:ax)(w:World)(ht:ah S w cs t)(ht':ah S' w cs' t):Calls prog 105 #[.agg cs.toArray,.agg cs'.toArray] w (Ret w (.bool true)):=by
 obtain⟨P2,p2,P3,p3,P4,p4,rfl,hF,hG,hI⟩:=ht.parts;obtain⟨Q2,q2,Q3,q3,Q4,q4,rfl,hF',hG',hI'⟩:=ht'.parts;have HF:=hidL hF;have HF':=hidL hF';have HG:=hidL hG;have HG':=hidL hG';have HI:=hidL hI;have HI':=hidL hI';obtain⟨z1,z2,hb⟩:=bY w [.string t.name,.bool t.enum,.slice P2 t.fields.length p2,.slice P3 t.gone.length p3,.slice P4 t.items.length p4] [.string t.name,.bool t.enum,.slice Q2 t.fields.length q2,.slice Q3 t.gone.length q3,.slice Q4 t.items.length q4] 70 70;clear ht ht' hF hF' hG hG' hI hI';go_enter func105,ntmps105;go_wp2_with fail;refine(Tryz.strings_Compare _ _ _).mono ?_;rintro e w1 ⟨rfl,rfl⟩;rw[Ck];have m3:=z1.cell 2;have n3:=z2.cell 2;have l1:=z1.lt;have l2:=z2.lt;simp only[List.getElem?_cons_zero,List.getElem?_cons_succ] at m3 n3;have HF2:=hidL (eqs.1 S S' _ _ _ _ ((RSl.fair aH.fair).below HF.out hb) ((RSl.fair aH.fair).below HF'.out hb));have hbx:(t.enum==t.enum)=true:=by simp
 go_wp2_with fail;refine HF2.out.mono ?_;rintro e w2 ⟨rfl,hb2⟩;have hw2:=aa hb hb2 hb.size;have y1:=z1.below hb2 z1.lt;have y2:=z2.below hb2 z2.lt;have HG2:=hidL (eqs.2.1 S S' _ _ _ _ ((RSl.fair aQ.fair).below HG.out hw2) ((RSl.fair aQ.fair).below HG'.out hw2));clear m3 n3 l1 l2 z1 z2 hb hb2 HF HF' HF2;have m3:=y1.cell 3;have n3:=y2.cell 3;have l1:=y1.lt;have l2:=y2.lt;simp only[List.getElem?_cons_zero,List.getElem?_cons_succ] at m3 n3;go_wp2_with fail;refine HG2.out.mono ?_;rintro e w3 ⟨rfl,hb3⟩;have hw3:=aa hw2 hb3 hw2.size;have x1:=y1.below hb3 y1.lt;have x2:=y2.below hb3 y2.lt;have HI2:=hidL (eqs.2.2.1 S S' _ _ _ _ ((RSl.fair aO.fair).below HI.out hw3) ((RSl.fair aO.fair).below HI'.out hw3));clear m3 n3 l1 l2 y1 y2 hw2 hb3 HG HG' HG2;have m3:=x1.cell 4;have n3:=x2.cell 4;have l1:=x1.lt;have l2:=x2.lt;simp only[List.getElem?_cons_zero,List.getElem?_cons_succ] at m3 n3;go_wp2_with fail;refine HI2.out.mono ?_;rintro e w4 ⟨rfl,hb4⟩;have hw4:=aa hw3 hb4 hw3.size;clear m3 n3 l1 l2 x1 x2 hb4 HI HI' HI2;go_wp2_with fail;go_ret;exact⟨rfl,hw4⟩
theorem adK (S S':Nat→Prop)(v v':Value)(b:av)(w:World)(h1:RSl 5 96 ah S w [v] b)(h2:RSl 5 96 ah S' w [v'] b):Calls prog 104 #[v,v',.func (.func 105) #[] #[]] w (Ret w (.bool true)):=by
 obtain⟨A,d1,rfl,hlc,hlb⟩:=h1.form;obtain⟨A',d2,rfl,hlc',hlb'⟩:=h2.form;have HL:=hidL h1;have HL':=hidL h2;clear h1 h2;go_enter func104,ntmps104;go_wp2_with fail;go_loopw [17] (fun i wr=>∃ k:Nat,i=.int .i64 k∧k≤b.length∧Below w.heap.size w wr) (fun i _=>b.length-(intOf i).toNat)
 case atStart=>exact⟨0,rfl,by omega,Below.refl _ _⟩
 case round =>
  obtain⟨k,rfl,hk,hb⟩:=hrel
  by_cases hlt:k<b.length
  ·obtain⟨lg,lo,rfl,hSl,hgl⟩:=HL.out.base (by omega);obtain⟨mg,mo,rfl,hSm,hgm⟩:=HL'.out.base (by omega);obtain⟨es,_,hrx,hlx⟩:=HL.out.lies hlt;obtain⟨fs,_,hry,hly⟩:=HL'.out.lies hlt;obtain⟨t,ht⟩:=exE (b[k]);rw[←ht] at hrx hry;obtain⟨P2,p2,P3,p3,P4,p4,rfl,-,-,-⟩:=hrx.parts;obtain⟨Q2,q2,Q3,q3,Q4,q4,rfl,-,-,-⟩:=hry.parts;have hc:=hlx.keep (az.of_below hb) hSl;have hd:=hly.keep (az.of_below hb) hSm;have HRx:=hidL hrx;have HRy:=hidL hry;have a0:=hc.at_ 0 rfl;have a1:=hc.at_ 1 rfl;have a2:=hc.at_ 2 rfl;have a3:=hc.at_ 3 rfl;have a4:=hc.at_ 4 rfl;have b0:=hd.at_ 0 rfl;have b1:=hd.at_ 1 rfl;have b2:=hd.at_ 2 rfl;have b3:=hd.at_ 3 rfl;have b4:=hd.at_ 4 rfl;simp only[Nat.add_zero] at a0 b0;have hlg:lg<wr.heap.size:=Nat.lt_of_lt_of_le hgl hb.size;have hmg:mg<wr.heap.size:=Nat.lt_of_lt_of_le hgm hb.size;clear hrx hry hlx hly ht hc hd;go_wp2_with fail;have hw2:=(hb.alloc hb.size (.cells #[.string t.name,.bool t.enum,.slice P2 t.fields.length p2,.slice P3 t.gone.length p3,.slice P4 t.items.length p4] 70));have hw3:=hw2.alloc hw2.size (.cells #[.string t.name,.bool t.enum,.slice Q2 t.fields.length q2,.slice Q3 t.gone.length q3,.slice Q4 t.items.length q4] 70);refine(agw S S' _ _ t _ (ah.fair.below HRx.out hw3) (ah.fair.below HRy.out hw3)).mono ?_;rintro e w4 ⟨rfl,hb4⟩;have hw4:=aa hw3 hb4 hw3.size;clear a0 a1 a2 a3 a4 b0 b1 b2 b3 b4 hlg hmg;go_wp2_with fail;go_roundw
   case rel=>exact⟨k+1,by go_num,by omega,hw4⟩
   case measure=>simp[intOf];omega
  ·go_wp2_with fail;go_ret;exact⟨rfl,hb⟩
theorem Hu (S S':Nat→Prop)(v v':Value)(b:av)(w:World)(h1:RSl 5 96 ah S w [v] b)(h2:RSl 5 96 ah S' w [v'] b):Calls prog 63 #[.agg #[v],.agg #[v']] w (Ret w (.bool true)):=by
 have H1:=hidL h1;have H2:=hidL h2;obtain⟨z1,z2,hb⟩:=bY w [v] [v'] 48 48;have l1:=z1.lt;have l2:=z2.lt;have m1:=z1.cell 0;have m2:=z2.cell 0;simp only[List.getElem?_cons_zero] at m1 m2;clear h1 h2;go_enter func63,ntmps63;go_wp2_with fail;refine(adK S S' _ _ b _ ((RSl.fair ah.fair).below H1.out hb) ((RSl.fair ah.fair).below H2.out hb)).mono ?_;rintro e w1 ⟨rfl,hb1⟩;have hw1:=aa hb hb1 hb.size;clear m1 m2 l1 l2 z1 z2;go_wp2_with fail;go_ret;exact⟨rfl,hw1⟩
theorem RSl.front {α:Type}{sz by_ n c:Nat}{R:Rel α}{S:Nat→Prop}{w:World}{A:Option Addr}{xs ys:List α}(h:RSl sz by_ R S w [.slice A n c] (xs++ys)):RSl sz by_ R S w [.slice A xs.length c] xs:=by
 obtain⟨A',cap,h1,h2,h3,h4⟩:=h;simp only[List.cons.injEq,Value.slice.injEq,and_true] at h1;obtain⟨rfl,-,rfl⟩:=h1;rw[List.length_append] at h2 h3;refine⟨A,c,rfl,by omega,Nat.le_trans (Nat.mul_le_mul_right _ (Nat.le_add_right _ _)) h3,fun k x hx=>h4 k x ?_⟩;rw[List.getElem?_append_left (List.getElem?_eq_some_iff.1 hx).1];exact hx
theorem Tq (p:aX)(W:World):(binOp .neq 92 (.agg #[.string p.type,.int .i64 p.id,.int .i64 p.why]) (.agg #[.string p.type,.int .i64 p.id,.int .i64 p.why])).run prog W=.ok (.bool false) W:=by
 have:=wE p p W;simpa[dh] using this
theorem aki (S S':Nat→Prop)(cs cs':List Value)(r:kR)(w:World)(h:jd S w cs r)(h':jd S' w cs' r):Calls prog 27 #[.agg cs.toArray,.agg cs'.toArray] w (Ret w (.bool true)):=by
 obtain⟨f1,rfl,hl⟩:=h;obtain⟨f2,rfl,hl'⟩:=h';obtain⟨F1,k1,rfl,-,-⟩:=hl.form;obtain⟨F2,k2,rfl,-,-⟩:=hl'.form;obtain⟨rc,rn,rt,l⟩:=r;dsimp only at hl hl' ⊢;obtain⟨x1,x2,x3⟩:=bY w [.int .i64 rc,.int .i64 rn,.string rt,.slice F1 l.length k1] [.int .i64 rc,.int .i64 rn,.string rt,.slice F2 l.length k2] 32 32;have HL:=hidL ((RSl.fair aU.fair).below hl x3);have HL':=hidL ((RSl.fair aU.fair).below hl' x3);have hlb:l.length≤9223372036854775807:=by obtain⟨_,_,_,_,hb⟩:=hl.form;omega
 clear hl hl';go_enter func27,ntmps27;go_upto_region 1 with fail;have hx1:=x1.lt;have hx2:w.heap.size+1<_:=x2.lt;have hs3:=x3.size;generalize World.alloc (World.alloc w _) _=W2 at x1 x2 x3 hx1 hx2 hs3 HL HL' ⊢;have X1:=hidL x1;have X2:=hidL x2;have a0:=x1.cell 0;have a1:=x1.cell 1;have a2:=x1.cell 2;have a3:=x1.cell 3;have b0:=x2.cell 0;have b1:=x2.cell 1;have b2:=x2.cell 2;have b3:=x2.cell 3;simp only[List.getElem?_cons_zero,List.getElem?_cons_succ] at a0 a1 a2 a3 b0 b1 b2 b3;clear x1 x2;go_wp2_with fail;clear a0 a1 a2 a3 b0 b1 b2 b3;go_loopw [37] (fun i wr=>∃ k:Nat,i=.int .i64 k∧k≤l.length∧Below W2.heap.size W2 wr) (fun i _=>l.length-(intOf i).toNat)
 case atStart=>exact⟨0,rfl,by omega,Below.refl _ _⟩
 case round =>
  obtain⟨k,rfl,hk,hb⟩:=hrel
  by_cases hlt:k<l.length
  ·obtain⟨g,o,es,rfl,hS,hg,hes,hr,hc⟩:=((RSl.fair aU.fair).below HL.out hb).at_ hlt;obtain⟨g',o',es',rfl,hS',hg',hes',hr',hc'⟩:=((RSl.fair aU.fair).below HL'.out hb).at_ hlt;obtain⟨p,hpe⟩:=exE (l[k]);rw[←hpe] at hr hr';clear hpe;obtain rfl:es=dh p:=hr;obtain rfl:es'=dh p:=hr';have a3:=(X1.out.below hb X1.out.lt).cell 3;have b3:=(X2.out.below hb X2.out.lt).cell 3;simp only[List.getElem?_cons_zero,List.getElem?_cons_succ] at a3 b3;have c0:=hc.at_ 0 rfl;have d0:=hc'.at_ 0 rfl;have c1:=hc.at_ 1 rfl;have d1:=hc'.at_ 1 rfl;have c2:=hc.at_ 2 rfl;have d2:=hc'.at_ 2 rfl;simp only[Nat.add_zero] at c0 d0;have hgd:=Cb;have hneq:=fun W=>Tq p W
   have hlk:(k:Int)<l.length:=by omega
   clear hc hc' hes hes' hg hg' hS hS';go_wp2_with fail
   go_quiet (fail)
   go_wp2_with fail;go_roundw
   case rel=>exact⟨k+1,by go_num,by omega,below_drewN hb _⟩
   case measure=>simp[intOf];omega
  ·have hlk:¬ (k:Int)<l.length:=by omega
   have hb9:=aa x3 hb hs3;go_wp2_with fail;go_ret;exact⟨rfl,hb9⟩
theorem afE (S S':Nat→Prop)(v v':Value)(b:av)(w:World)(h1:RSl 5 96 ah S w [v] b)(h2:RSl 5 96 ah S' w [v'] b):Calls prog 34 #[.agg #[v],.agg #[v']] w (Ret w (.bool true)):=by
 obtain⟨A,d1,rfl,hlc,hlb⟩:=h1.form;obtain⟨A',d2,rfl,hlc',hlb'⟩:=h2.form;obtain⟨x1,x2,x3⟩:=bY w [.slice A b.length d1] [.slice A' b.length d2] 48 48;have HC:=hidL (Hu S S' _ _ b _ ((RSl.fair ah.fair).below h1 x3) ((RSl.fair ah.fair).below h2 x3));clear h1 h2;go_enter func34,ntmps34;go_wp2_with fail;refine HC.out.mono ?_;rintro e w1 ⟨rfl,hb⟩;have hb1:=aa x3 hb x3.size;clear HC x1 x2 x3 hb;go_wp2_with fail;go_ret;exact⟨rfl,hb1⟩
theorem aef (S S':Nat→Prop)(v v':Value)(l:List fD)(w:World)(hl:RSl 2 48 dw S w [v] l)(hl':RSl 2 48 dw S' w [v'] l):Calls prog 29 #[v,v'] w (Ret w (.bool true)):=by
 obtain⟨A,cap,rfl,hlc,hlb⟩:=hl.form;obtain⟨A',cap',rfl,hlc',hlb'⟩:=hl'.form;have HL:=hidL hl;have HL':=hidL hl';clear hl hl';go_enter func29,ntmps29;go_wp2_with fail;go_loopw [13] (fun i wr=>∃ k:Nat,i=.int .i64 k∧k≤l.length∧Below w.heap.size w wr) (fun i _=>l.length-(intOf i).toNat)
 case atStart=>exact⟨0,rfl,by omega,Below.refl _ _⟩
 case round =>
  obtain⟨k,rfl,hk,hb⟩:=hrel
  by_cases hlt:k<l.length
  ·obtain⟨g,o,es,rfl,hS,hg,hes,hr,hc⟩:=((RSl.fair dw.fair).below HL.out hb).at_ hlt;obtain⟨g',o',es',rfl,hS',hg',hes',hr',hc'⟩:=((RSl.fair dw.fair).below HL'.out hb).at_ hlt;obtain⟨p,hpe⟩:=exE (l[k]);rw[←hpe] at hr hr';clear hpe;obtain⟨vb,vp,rfl,hB,hP⟩:=hr;obtain⟨vb',vp',rfl,hB',hP'⟩:=hr';obtain⟨B1,b1,rfl,-,-⟩:=hB.form;obtain⟨B2,b2,rfl,-,-⟩:=hB'.form;obtain⟨P1,p1,rfl,-,-⟩:=hP.form;obtain⟨P2,p2,rfl,-,-⟩:=hP'.form;have hlk:(k:Int)<l.length:=by omega
   have HS:=hidL (fun W (h:Below wr.heap.size wr W)=>show (fun W'=>World.cell? W' ⟨g,o+k*2,none⟩=some (.slice B1 p.book.length b1)∧World.cell? W' ⟨g,o+k*2+1,none⟩=some (.slice P1 p.parents.length p1)∧World.cell? W' ⟨g',o'+k*2,none⟩=some (.slice B2 p.book.length b2)∧World.cell? W' ⟨g',o'+k*2+1,none⟩=some (.slice P2 p.parents.length p2)) W from⟨(h.cell (p:=⟨g,o+k*2,none⟩) hg).trans (hc.at_ 0 rfl),(h.cell (p:=⟨g,o+k*2+1,none⟩) hg).trans (hc.at_ 1 rfl),(h.cell (p:=⟨g',o'+k*2,none⟩) hg').trans (hc'.at_ 0 rfl),(h.cell (p:=⟨g',o'+k*2+1,none⟩) hg').trans (hc'.at_ 1 rfl)⟩);have HB:=hidL (fun W (h:Below wr.heap.size wr W)=>afE S S' _ _ p.book W ((RSl.fair ah.fair).below hB h) ((RSl.fair ah.fair).below hB' h));have HP:=hidL (fun W (h:Below wr.heap.size wr W)=>eqs.2.2.2.2 S S' _ _ p.parents W ((RSl.fair aQ.fair).below hP h) ((RSl.fair aQ.fair).below hP' h));clear hc hc' hes hes' hg hg' hS hS' hB hB' hP hP';go_upto_region 6 with fail;have hw:=au (Below.refl wr.heap.size wr);have hS:=HS.out _ hw;refine aJ (fun W'=>World.cell? W' ⟨g,o+k*2,none⟩=some (.slice B1 p.book.length b1)∧World.cell? W' ⟨g,o+k*2+1,none⟩=some (.slice P1 p.parents.length p1)∧World.cell? W' ⟨g',o'+k*2,none⟩=some (.slice B2 p.book.length b2)∧World.cell? W' ⟨g',o'+k*2+1,none⟩=some (.slice P2 p.parents.length p2)) (fun _=>true) (by kernel_rfl) ?_;generalize wr.drew=Wd at hw hS ⊢;refine ppP 0 ?_;refine ppP 1 ?_;refine ppP 2 ?_;refine ppP 3 ?_;refine tkP 4 hS ?_;refine ppP 5 ?_;refine ppP 6 ?_;refine ppP 7 ?_;refine ppP 8 ?_;refine tkP 9 hS ?_
   try simp only[pu]
   refine ang 10 (fun K hK=>?_);go_simp;refine(HB.out _ hw).mono ?_;rintro e w5 ⟨rfl,hb5⟩;replace hw:=aa hw hb5 hw.size;replace hS:=HS.out _ hw;clear hb5;refine hK.out _ _ (fun _ _=>hS) ?_;clear hK K
   try simp only[pu]
   refine ppP 11 ?_;refine ppP 12 ?_;refine ppP 13 ?_;refine ppP 14 ?_;refine ppP 15 ?_;refine ppP 16 ?_;refine tkP 17 hS ?_;refine ppP 18 ?_;refine ppP 19 ?_;refine ppP 20 ?_;refine ppP 21 ?_;refine tkP 22 hS ?_
   try simp only[pu]
   refine ang 23 (fun K hK=>?_);go_simp;refine(HP.out _ hw).mono ?_;rintro e w6 ⟨rfl,hb6⟩;replace hw:=aa hw hb6 hw.size;replace hS:=HS.out _ hw;clear hb6;refine hK.out _ _ (fun _ _=>hS) ?_;clear hK K
   try simp only[pu]
   refine ppP 24 ?_;refine ppP 25 ?_
   try simp only[pu]
   refine anf ?_ _;have hb9:=aa hb hw hb.size;clear hw hS HS HB HP;go_wp2_with fail;go_roundw
   case rel=>exact⟨k+1,by go_num,by omega,hb9⟩
   case measure=>simp[intOf];omega
  ·go_wp2_with fail;go_ret;exact⟨rfl,hb⟩
theorem qB {S S':Nat→Prop}{row row':Option Nat}{base base' g g':Nat}{w:World}{s s':cK}(h:bS S row base w g s)(h':bS S' row' base' w g' s')(hc:s.cs=s'.cs)(hr:s.rs=s'.rs)(h1:s.cs.length≤1000)(h2:s.rs.length≤1000) :
  Calls prog 35 #[.pointer (some ⟨g,0,none⟩),.pointer (some ⟨g',0,none⟩)] w (Ret w (.bool true)):=by
 have H:=hidL (fun W (k:Below w.heap.size w W)=>yM (h.below k) h1);have H':=hidL (fun W (k:Below w.heap.size w W)=>yM (h'.below k) (hc ▸ h1));have R:=hidL (fun W (k:Below w.heap.size w W)=>Au (h.below k) h2);have R':=hidL (fun W (k:Below w.heap.size w W)=>Au (h'.below k) (hr ▸ h2));rw[←hc] at H';rw[←hr] at R';clear h h' h1 h2;go_enter func35,ntmps35;go_wp2_with fail;refine(H.out _ (Below.refl _ _)).mono ?_;rintro e w1 ⟨v1,rfl,hv1,hw1⟩;have HB1:=hidL (H'.out _ hw1);have HV1:=hidL hv1;clear hv1 H H';go_wp2_with fail;refine HB1.out.mono ?_;rintro e w2 ⟨v2,rfl,hv2,hb2⟩;have hw2:=aa hw1 hb2 hw1.size;have HX:=hidL (aef _ _ _ _ _ _ ((RSl.fair dw.fair).below HV1.out hb2) hv2);clear hw1 hb2 hv2 HB1 HV1;go_wp2_with fail;refine HX.out.mono ?_;rintro e w3 ⟨rfl,hb3⟩;have hw3:=aa hw2 hb3 hw2.size;have HC:=hidL (R.out _ hw3);clear hw2 hb3 HX;go_wp2_with fail;refine HC.out.mono ?_;rintro e w4 ⟨v4,rfl,hv4,hb4⟩;have hw4:=aa hw3 hb4 hw3.size;have HD:=hidL (R'.out _ hw4);have HV4:=hidL hv4;clear hw3 hb4 hv4 HC R R';go_wp2_with fail;refine HD.out.mono ?_;rintro e w5 ⟨v5,rfl,hv5,hb5⟩;have hw5:=aa hw4 hb5 hw4.size;have HY:=hidL (eqs.2.2.2.1 _ _ _ _ _ _ ((RSl.fair iG.fair).below HV4.out hb5) hv5);clear hw4 hb5 hv5 HD HV4;go_wp2_with fail;refine HY.out.mono ?_;rintro e w6 ⟨rfl,hb6⟩;have hw6:=aa hw5 hb6 hw5.size;clear hw5 hb6 HY;go_wp2_with fail;go_ret;exact⟨rfl,hw6⟩
theorem ams {B base:Nat}{w0:World}(hB:B≤w0.heap.size):aim 31 [] base w0 (fun _ _ _ _ S=>∀ y,S y→B≤y):=by
 intro s a g W W1 row row' S S' cs hok hkp hac hfit hbW hI hN hT hb1 hN1 hS' hr' hrep;have hI2:∀ y,S' y→B≤y:=fun y h=>(hS' y h).elim (hI y) (fun k=>by have:=hbW.size;omega)
 have HI2:=hidL hI2;obtain⟨vf,rfl,hrf⟩:=hrep;obtain⟨AF,kF,rfl,-,-⟩:=hrf.form;obtain⟨r,hr⟩:=exE (doF s a);rw[←hr] at hN1 ⊢;obtain⟨⟨rc,rn,rt,rf⟩,s2⟩:=r;obtain⟨ak,an,am,nm,ot,tx⟩:=a;dsimp only[fQ];obtain⟨x1,x2,x3⟩:=bY W1 [.int .i64 ak,.int .i64 an,.int .i64 am,.string nm,.string ot,.string tx] [.int .i64 rc,.int .i64 rn,.string rt,.slice AF rf.length kF] 28 32;have hN2:=hidL (hN1.below x3);have hb2:=hidL (x3.mono hb1.size);clear hok hkp hac hfit hbW hI hI2 hN hT hb1 hN1 hS' hr' hrf hr x1 x2 x3;go_enter func31,ntmps31;go_wp2_with fail;go_ret;exact⟨rfl,hb2.out,hN2.out,HI2.out⟩
def Far (row:Option Nat)(g:Nat)(row2:Option Nat)(g2:Nat)(S2:Nat→Prop):Prop:=g2≠g∧row≠some g2∧row2≠some g∧(∀ k,row2=some k→row≠some k)∧¬ S2 g∧∀ k,row=some k→¬ S2 k
section
variable {S S2 S':Nat→Prop}{row row2 row':Option Nat}{b1 b2 g g2:Nat}{w w':World}{s1 s2:cK}
theorem bS.touch (h:bS S2 row2 b2 w g2 s2)(ht:Touch row g w w')(hf:Far row g row2 g2 S2):bS S2 row2 b2 w' g2 s2:=by
 obtain⟨h1,h2,h3,h4,h5,h6⟩:=hf;obtain⟨vc,vr,a1,a2,a3,a4,a5,a6,a7,a8⟩:=h;refine⟨vc,vr,a1,a2.touch ht h1 h2,(RSl.fair dw.fair).keep a3 (ht.keep h5 h6),a4.air iG.fair (S:=fun y=>y≠g∧row≠some y) ⟨ht.size,fun y hy hl=>ht.block y hl hy.1 hy.2⟩ (fun k e=>⟨?_,h4 k (a1 ▸ e)⟩),a5,a6,fun y hy=>Nat.lt_of_lt_of_le (a7 y hy) ht.size,a8⟩;rintro rfl;exact h3 (a1 ▸ e)
end
def Duo (b1 b2:Nat)(W:World)(g1 g2:Nat)(s1 s2:cK):Prop:=∃ row1 row2 S1 S2,bS S1 row1 b1 W g1 s1∧bS S2 row2 b2 W g2 s2∧Far row1 g1 row2 g2 S2∧Far row2 g2 row1 g1 S1
section
variable {S S2 S':Nat→Prop}{row row2 row':Option Nat}{b1 b2 g g2:Nat}{w w':World}{s1 s2:cK}
theorem Duo.swap (h:Duo b1 b2 w g g2 s1 s2):Duo b2 b1 w g2 g s2 s1:=by
 obtain⟨r1,r2,S1,S2,h1,h2,h3,h4⟩:=h;exact⟨r2,r1,S2,S1,h2,h1,h4,h3⟩
theorem Duo.below (h:Duo b1 b2 w g g2 s1 s2)(hb:Below w.heap.size w w'):Duo b1 b2 w' g g2 s1 s2:=by
 obtain⟨r1,r2,S1,S2,h1,h2,h3,h4⟩:=h;exact⟨r1,r2,S1,S2,h1.below hb,h2.below hb,h3,h4⟩
theorem anM (a:mG)(h:Duo b1 b2 w g g2 s1 s2)(hk:gY s1)(ha:a.name.size≤140737488351232)(ht:a.text.size≤140737488351232)(hb:b1≤w.heap.size)(hG:qW b1 w) :
  Calls prog 32 #[.pointer (some ⟨g,0,none⟩),.agg (fQ a).toArray] w (fun e w'=>∃ cs T,e=.returned (.agg cs.toArray)∧jd T w' cs (doF s1 a).1∧(∀ y,T y→w.heap.size≤y)∧Duo b1 b2 w' g g2 (doF s1 a).2 s2∧Below b1 w w'):=by
 obtain⟨r1,r2,S1,S2,h1,h2,h3,h4⟩:=h;refine(WL a h1 hk ha ht hb hG).mono ?_;rintro e w' ⟨cs,S',row',rfl,hr,hn,hS,hrow,hT⟩;have hg:=h2.gLt;have hr2:∀ k,r2=some k→k<w.heap.size:=fun k e=>by subst e;exact h2.GM.2
 have hS2:∀ y,S2 y→y<w.heap.size:=by obtain⟨_,_,_,_,_,_,_,_,a7,_⟩:=h2;exact a7
 refine⟨cs,_,rfl,hr,fun y h=>h.1,⟨row',r2,S',S2,hn,h2.touch hT h3,⟨h3.1,?_,h3.2.2.1,fun k e=>?_,h3.2.2.2.2.1,fun k e=>?_⟩,⟨h4.1,h4.2.1,?_,fun k e=>?_,fun h=>?_,fun k e h=>?_⟩⟩,h1.KE hT hb⟩
 ·rcases hrow with rfl | hrow
  ·exact h3.2.1
  ·intro e;have:=hrow _ e;omega
 ·rcases hrow with rfl | hrow
  ·exact h3.2.2.2.1 k e
  ·intro e2;have:=hrow _ e2;have:=hr2 k e;omega
 ·rcases hrow with rfl | hrow
  ·exact h3.2.2.2.2.2 k e
  ·intro h;have:=hrow _ e;have:=hS2 k h;omega
 ·rcases hrow with rfl | hrow
  ·exact h4.2.2.1
  ·intro e;have:=hrow _ e;omega
 ·rcases hrow with rfl | hrow
  ·exact h4.2.2.2.1 k e
  ·intro e2;have:=hrow _ e;have:=hr2 k e2;omega
 ·exact(hS _ h).elim h4.2.2.2.2.1 (fun k=>by omega)
 ·exact(hS _ h).elim (h4.2.2.2.2.2 k e) (fun j=>by have:=hr2 k e;omega)
theorem anP (h:Duo b1 b2 w g g2 s1 s2)(hc:s1.cs=s2.cs)(hr:s1.rs=s2.rs)(h1:s1.cs.length≤1000)(h2:s1.rs.length≤1000):Calls prog 35 #[.pointer (some ⟨g2,0,none⟩),.pointer (some ⟨g,0,none⟩)] w (Ret w (.bool true)):=by
 obtain⟨r1,r2,S1,S2,k1,k2,-,-⟩:=h;exact qB k2 k1 hc.symm hr.symm (hc ▸ h1) (hr ▸ h2)
end
theorem anI (l:List mG):gY (aeF l)∧iL (aeF l)∧(aeF l).acts=(min l.length 40:Nat):=by
 unfold aeF;have h:=aet (l.take 40) (l.take 40).length (Nat.le_refl _) (by simp;omega);rw[List.take_length] at h;exact⟨h.1,h.2.1,by rw[h.2.2];simp[Nat.min_comm]⟩
theorem anB {S:Nat→Prop}{A:Option Addr}{cap:Nat}{l:List mG}{w:World}(hl:RSl 6 72 Tn S w [.slice A l.length cap] l)(hfit:∀ a∈l,IM a)(hG:qW w.heap.size w) :
  Calls prog 14 #[.slice A l.length cap,Value.func (.func 31) #[] #[]] w (fun e w2=>∃ g row S1,e=.returned (.tuple #[.pointer (some ⟨g,0,none⟩),.bool true])∧bS S1 row w.heap.size w2 g (aeF l)∧(∀ y,S1 y→w.heap.size≤y)∧Below w.heap.size w w2):=by
 refine(SI 31 [] (enters_of func31 (by kernel_rfl) rfl) A cap l S w w hl hfit (Below.refl _ _) hG (ams (Nat.le_refl _)) (fun _ _ _ _ _ _ h=>h.elim)).mono ?_;rintro e w2 ⟨g,row,S1,rfl,h1,h2,h3⟩;exact⟨g,row,S1,rfl,h1,h2,h3⟩
theorem anO {S:Nat→Prop}{A:Option Addr}{cap:Nat}{l:List mG}{w w2:World}{g:Nat}{row:Option Nat}{S1:Nat→Prop}(hl:RSl 6 72 Tn S w [.slice A l.length cap] l)(hfit:∀ a∈l,IM a)(h0:Below w.heap.size w w2)(hG:qW w.heap.size w)(hr:bS S1 row w.heap.size w2 g (aeF l)) :
  Calls prog 14 #[.slice A l.length cap,Value.func (.func 31) #[] #[]] w2 (fun e w3=>∃ g2,e=.returned (.tuple #[.pointer (some ⟨g2,0,none⟩),.bool true])∧Duo w.heap.size w2.heap.size w3 g g2 (aeF l) (aeF l)∧Below w2.heap.size w2 w3):=by
 refine(anB ((RSl.fair Tn.fair).below hl h0) hfit ((hG.below h0).more h0.size)).mono ?_;rintro e w3 ⟨g2,row2,S2,rfl,hr2,hS2,hb⟩;have hg:=hr.gLt;have hg2:w2.heap.size≤g2:=by obtain⟨_,_,_,_,_,_,_,_,_,h⟩:=hr2;exact h
 have k1:∀ k,row=some k→k<w2.heap.size:=fun k e=>by subst e;exact hr.GM.2
 have k2:∀ k,row2=some k→w2.heap.size≤k:=fun k e=>by subst e;exact hr2.GM.1
 have hS1:∀ y,S1 y→y<w2.heap.size:=by obtain⟨_,_,_,_,_,_,_,_,a7,_⟩:=hr;exact a7
 exact⟨g2,rfl,⟨row,row2,S1,S2,hr.below hb,hr2,⟨by omega,fun e=>by have:=k1 _ e;omega,fun e=>by have:=k2 _ e;omega,fun k e e2=>by have:=k1 _ e2;have:=k2 _ e;omega,fun h=>by have:=hS2 _ h;omega,fun k e h=>by have:=k1 _ e;have:=hS2 _ h;omega⟩,
  ⟨by omega,fun e=>by have:=k2 _ e;omega,fun e=>by have:=k1 _ e;omega,fun k e e2=>by have:=k2 _ e2;have:=k1 _ e;omega,fun h=>by have:=hS1 _ h;omega,fun k e h=>by have:=k2 _ e;have:=hS1 _ h;omega⟩⟩,hb⟩
def anQ:mG:=⟨0,0,0,⟨#[]⟩,⟨#[]⟩,⟨#[]⟩⟩
theorem anT {cs:List fD}{rs:List gD}{j:Nat}(h:j<200):doF ⟨cs,rs,j⟩ anQ=(⟨11,0,⟨#[]⟩,[]⟩,⟨cs,rs,(j+1:Nat)⟩):=by
 unfold doF;rw[if_neg (show ¬ (200:Int)≤j by omega)];exact akP (.inl (by decide))
theorem anR (S:Nat→Prop)(v:Value)(l:List mG)(a:mG)(w:World)(hl:RSl 6 72 Tn S w [v] l)(hfit:∀ a∈l,IM a)(ha:IM a)(hG:qW w.heap.size w):Calls prog 12 #[v,.agg (fQ a).toArray] w (Ret w (.bool true)):=by
 obtain⟨A,cap,rfl,-,-⟩:=hl.form;obtain⟨hok,-,hac⟩:=anI l;have x1:=Box.new w 28 (fQ a);have hx:=(Below.here w).alloc (Nat.le_refl _) (.cells (fQ a).toArray 28);have HL:=hidL ((RSl.fair Tn.fair).below hl hx);have HG:=hidL ((hG.below hx).more hx.size);have HF:=hidL hfit;have HA:=hidL ha;have HO:=hidL (fun (j:Nat) (h:j≤200)=>(hok.amQ (n:=j) (by omega) (by omega)));have HAC:=hidL hac;have HM:=hidL hok.most;clear hl hfit ha hG hok hac;obtain⟨ak,an,am,nm,ot,tx⟩:=a;dsimp only[fQ] at x1 hx HL HG ⊢;go_enter func12,ntmps12;go_upto_region 1 with fail;have hx1:=x1.lt;have hs1:=hx.size;generalize World.alloc w _=W1 at x1 hx hx1 hs1 HL HG ⊢;have HX1:=hidL hx1;have HP:=hidL (anB HL.out HF.out HG.out);go_wp2_with fail;refine HP.out.mono ?_;rintro e w2 ⟨g,row,S1,rfl,hr,-,hb2⟩;have HQ:=hidL (anO HL.out HF.out hb2 HG.out hr);have X2:=hidL (x1.below hb2 hx1);have hz2:=hb2.size;clear x1 hx1 hr HP;go_wp2_with fail;refine HQ.out.mono ?_;rintro e w3 ⟨g2,rfl,hd,hb3⟩;have hb13:=aa hb2 hb3 hz2;have X3:=hidL (X2.out.below hb3 X2.out.lt);have hz3:=hb3.size;obtain⟨cs,hcs⟩:=exE ((aeF l).cs);obtain⟨rs,hrs⟩:=exE ((aeF l).rs);have hp:aeF l=⟨cs,rs,(min l.length 40:Nat)⟩:=by rw[hcs,hrs,←HAC.out]
 rw[hp] at hd;rw[←hcs,←hrs] at HM HO;clear hb2 hb3 X2 HQ HL HAC hp hcs hrs;go_wp2_with fail;go_loopw [9] (fun i wr=>∃ j:Nat,i=.int .i64 j∧j≤200∧Duo W1.heap.size w2.heap.size wr g g2 ⟨cs,rs,j⟩ ⟨cs,rs,j⟩∧Below W1.heap.size w3 wr∧w3.heap.size≤wr.heap.size) (fun i _=>200-(intOf i).toNat)
 case atStart=>exact⟨min l.length 40,by congr 1;omega,by omega,hd,Below.refl _ _,Nat.le_refl _⟩
 case round =>
  clear hd;obtain⟨j,rfl,hj,hd,hb,hz⟩:=hrel;have hb1:=hb13.trans hb
  by_cases hlt:j<200
  ·have HD:=hidL (anM anQ hd (HO.out j hj) (by decide) (by decide) hb1.size (HG.out.below hb1));rw[anT hlt] at HD;have d1:decide ((j:Int)<200)=true:=by simp;omega
   dsimp only[anQ,fQ] at HD;have hji:(j:Int)<200:=by omega
   have e1:IntKind.i64.wrap ((j:Int)+1)=((j+1:Nat):Int):=by rw[show (j:Int)+1=((j+1:Nat):Int) by omega];exact IntWalk.i64_in _ (by omega)
   clear hd;go_wp2_with fail;refine HD.out.mono ?_;rintro e w4 ⟨c4,T,rfl,⟨vf,rfl,hrf⟩,-,hd4,hb4⟩;obtain⟨AF,kF,rfl,-,-⟩:=hrf.form;dsimp only[List.length_nil];have hfd:∀ A k V,(Instr.field 32 (.agg #[.int .i64 11,.int .i64 0,.string ⟨#[]⟩,.slice A 0 k]) 0).run prog V=.ok (.int .i64 11) V:=fun _ _ _=>by kernel_rfl
   clear hrf;have hb14:=hb1.trans hb4;have hz4:=Nat.le_trans hz hb4.size;have hz24:=Nat.le_trans hz3 hz4;have HE:=hidL (anM anQ hd4.swap (HO.out j hj) (by decide) (by decide) hz24 ((HG.out.below hb14).more hz2));rw[anT hlt] at HE;dsimp only[anQ,fQ] at HE;clear hd4 HD;go_wp2_with fail;refine HE.out.mono ?_;rintro e w5 ⟨c5,T5,rfl,⟨vf5,rfl,hrf5⟩,-,hd5,hb5⟩;obtain⟨AF5,kF5,rfl,-,-⟩:=hrf5.form;dsimp only[List.length_nil]
   clear hrf5;have hb9:=(hb.trans hb4).trans (hb5.mono hz2);have hz9:=Nat.le_trans hz4 hb5.size;have hd9:=hd5.swap;clear hd5 hb4 hb5 HE hb14;go_wp2_with fail;go_roundw
   case rel=>exact⟨j+1,rfl,by omega,hd9,hb9,hz9⟩
   case measure=>simp[intOf];omega
  ·obtain rfl:j=200:=by omega
   have HD:=hidL (anM ⟨ak,an,am,nm,ot,tx⟩ hd (HO.out 200 hj) HA.out.1 HA.out.2.2 hb1.size (HG.out.below hb1));rw[akF (by show (200:Int)≤((200:Nat):Int);decide)] at HD;have X4:Box wr _ 28 [.int .i64 ak,.int .i64 an,.int .i64 am,.string nm,.string ot,.string tx]:=(hb.block _ HX1.out).trans X3.out;have a0:=X4.cell 0;have a1:=X4.cell 1;have a2:=X4.cell 2;have a3:=X4.cell 3;have a4:=X4.cell 4;have a5:=X4.cell 5;have xl:=X4.lt;simp only[List.getElem?_cons_zero,List.getElem?_cons_succ] at a0 a1 a2 a3 a4 a5;dsimp only[fQ] at HD;clear X4 hd;go_wp2_with fail;refine HD.out.mono ?_;rintro e w5 ⟨c5,T5,rfl,hrp,-,hd5,hb5⟩;have hb15:=hb1.trans hb5;have HR:=hidL (aki T5 NoT c5 [.int .i64 12,.int .i64 0,.string ⟨#[]⟩,.slice none 0 0] (dY 12) w5 hrp jd.flat);clear HD a0 a1 a2 a3 a4 a5 xl hrp hb5 hb;go_wp2_with fail;refine HR.out.mono ?_;rintro e w6 ⟨rfl,hb6⟩;have hb16:=aa hb15 hb6 hb15.size;have HS:=hidL (anP (hd5.below hb6) rfl rfl (by have:=HM.out;show cs.length≤_;omega) (by have:=HM.out;show rs.length≤_;omega));clear hb6 hb15 hd5 HR;go_wp2_with fail;refine HS.out.mono ?_;rintro e w7 ⟨rfl,hb7⟩;have hb9:=hx.trans ((aa hb16 hb7 hb16.size).mono hs1);clear hb7 hb16 HS;go_wp2_with fail;go_ret;exact⟨rfl,hb9⟩
end Go.Proofs.YthhldfpmhmocfaaGreatDoor
