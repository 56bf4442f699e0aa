/- TopRefused. -/
import Derived.Test.YthhldfpmhmocfaaGreatDoorTops
set_option linter.all false
set_option maxRecDepth 100000
set_option maxHeartbeats 8000000
namespace Go.Proofs.YthhldfpmhmocfaaGreatDoor
open Go.Proofs.Tryz Go.RowKit
theorem Box.c {g:Nat}{y:TypeId}{cs:List Value}{w:World}(h:Box w g y cs)(i:Nat){v:Value}(e:cs[i]? = some v):w.cell? ⟨g,i,none⟩=some v:=by rw[h.cell,e]
theorem yQ:prog.underlying 74=some (.struct (prog.fieldsOf 74)):=by kernel_rfl
theorem uO (p:ay)(W:World):(binOp .neq 72 (.agg #[.int .i64 p.id,.string p.name,.string p.type,.int .i64 p.kind,.int .i64 p.rule]) (.agg #[.int .i64 p.id,.string p.name,.string p.type,.int .i64 p.kind,.int .i64 p.rule])).run prog W=.ok (.bool false) W:=by
 rw[run_neq_struct,run_equalIn_agg (P:=prog) W 9999 72 _ _ oI rR];simp[go_sem]
theorem wJ (p:dC)(W:World):(binOp .neq 74 (.agg #[.string p.name,.int .i64 p.n]) (.agg #[.string p.name,.int .i64 p.n])).run prog W=.ok (.bool false) W:=by
 rw[run_neq_struct,run_equalIn_agg (P:=prog) W 9999 74 _ _ yQ (by kernel_rfl)];simp[go_sem]
theorem Xt (p:gD)(W:World):(binOp .neq 37 (.agg #[.string p.name,.int .i64 p.commit,.int .i64 p.policy]) (.agg #[.string p.name,.int .i64 p.commit,.int .i64 p.policy])).run prog W=.ok (.bool false) W:=by
 rw[run_neq_struct,run_equalIn_agg (P:=prog) W 9999 37 _ _ (show prog.underlying 37=some (.struct (prog.fieldsOf 37)) by kernel_rfl) (by kernel_rfl)];simp[go_sem]
theorem Tn.fair:Fair Tn:=dS.fair _
def EqL {α:Type}(sz b f:Nat)(R:Rel α):Prop:=∀ (S S':Nat→Prop)(v v':Value)(l:List α)(w:World),RSl sz b R S w [v] l→RSl sz b R S' w [v'] l→Calls prog f #[v,v'] w (Ret w (.bool true))
theorem eqs:EqL 5 56 106 aH∧EqL 1 8 107 aQ∧EqL 2 24 108 aO∧EqL 3 32 64 iG∧EqL 1 8 24 aQ:=by
 have hgd:prog.eqGuardType prog.depth 72=false:=by kernel_rfl
 have hg3:prog.eqGuardType prog.depth 37=false:=by kernel_rfl
 have hg4:prog.eqGuardType prog.depth 74=false:=by kernel_rfl
 refine⟨?_,?_,?_,?_,?_⟩
 all_goals (intro S S' v v' l w hl hl';obtain⟨A,cap,rfl,hlc,hlb⟩:=hl.form;obtain⟨A',cap',rfl,hlc',hlb'⟩:=hl'.form;have HL:=hidL hl;have HL':=hidL hl';clear hl hl')
 go_enter func106,ntmps106;rotate_left
 go_enter func107,ntmps107;rotate_left
 go_enter func108,ntmps108;rotate_left
 go_enter func64,ntmps64;rotate_left
 go_enter func24,ntmps24;rotate_left
 all_goals as_aux_lemma =>
  go_wp2_with fail;go_loopw [13] (fun i wr=>∃ k:Nat,i=.int .i64 k∧k≤l.length∧Below w.heap.size w wr) (fun i _=>l.length-(intOf i).toNat)
  case atStart=>exact⟨0,rfl,by omega,Below.refl _ _⟩
  case round =>
   obtain⟨k,rfl,hk,hb⟩:=hrel
   by_cases hlt:k<l.length
   ·obtain⟨g,o,es,rfl,hS,hg,hes,hr,hc⟩:=((RSl.fair (dS.fair _)).below HL.out hb).at_ hlt;obtain⟨g',o',es',rfl,hS',hg',hes',hr',hc'⟩:=((RSl.fair (dS.fair _)).below HL'.out hb).at_ hlt;obtain⟨p,hpe⟩:=exE (l[k]);rw[←hpe] at hr hr';clear hpe;obtain rfl:es=_:=hr;obtain rfl:es'=_:=hr';have c0:=hc.at_ 0 rfl;have d0:=hc'.at_ 0 rfl;simp only[Nat.add_zero,Nat.mul_one] at c0 d0;try have c1:=hc.at_ 1 rfl;have d1:=hc'.at_ 1 rfl
    try have c2:=hc.at_ 2 rfl;have d2:=hc'.at_ 2 rfl
    try have c3:=hc.at_ 3 rfl;have d3:=hc'.at_ 3 rfl
    try have c4:=hc.at_ 4 rfl;have d4:=hc'.at_ 4 rfl
    first|have hQ:=uO p|have hQ:=wJ p|have hQ:=Xt p|skip
    clear hc hc' hes hes' hg hg' hS hS';go_wp2_with fail
    go_quiet (fail)
    go_wp2_with fail;go_roundw
    case rel=>exact⟨k+1,by go_num,by omega,below_drewN hb _⟩
    case measure=>simp[intOf];omega
   ·go_wp2_with fail;go_ret;exact⟨rfl,hb⟩
theorem Ck:∀ (l:List UInt8),Lib.compareBytes l l=0
 | []=>by simp[Lib.compareBytes]
 | a::l=>by
  unfold Lib.compareBytes;have h:¬ a<a:=UInt8.lt_irrefl a;rw[if_neg h,if_neg h];exact Ck l
theorem agw (S S':Nat→Prop)(cs cs':List Value)(t:ax)(w:World)(ht:ah S w cs t)(ht':ah S' w cs' t):Calls prog 105 #[.agg cs.toArray,.agg cs'.toArray] w (Ret w (.bool true)):=by
 obtain⟨P2,p2,P3,p3,P4,p4,rfl,hF,hG,hI⟩:=ht.parts;obtain⟨Q2,q2,Q3,q3,Q4,q4,rfl,hF',hG',hI'⟩:=ht'.parts;have HF:=hidL hF;have HF':=hidL hF';have HG:=hidL hG;have HG':=hidL hG';have HI:=hidL hI;have HI':=hidL hI';obtain⟨z1,z2,hb⟩:=bY w [.string t.name,.bool t.enum,.slice P2 t.fields.length p2,.slice P3 t.gone.length p3,.slice P4 t.items.length p4] [.string t.name,.bool t.enum,.slice Q2 t.fields.length q2,.slice Q3 t.gone.length q3,.slice Q4 t.items.length q4] 70 70;clear ht ht' hF hF' hG hG' hI hI';go_enter func105,ntmps105;go_wp2_with fail;refine(Tryz.strings_Compare _ _ _).mono ?_;rintro e w1 ⟨rfl,rfl⟩;rw[Ck];have m3:=z1.c 2 rfl;have n3:=z2.c 2 rfl;have l1:=z1.lt;have l2:=z2.lt;have HF2:=hidL (eqs.1 S S' _ _ _ _ ((RSl.fair aH.fair).below HF.out hb) ((RSl.fair aH.fair).below HF'.out hb));have hbx:(t.enum==t.enum)=true:=by simp
 go_wp2_with fail;refine HF2.out.mono ?_;rintro e w2 ⟨rfl,hb2⟩;have hw2:=aa hb hb2 hb.size;have y1:=z1.below hb2 z1.lt;have y2:=z2.below hb2 z2.lt;have HG2:=hidL (eqs.2.1 S S' _ _ _ _ ((RSl.fair aQ.fair).below HG.out hw2) ((RSl.fair aQ.fair).below HG'.out hw2));clear m3 n3 l1 l2 z1 z2 hb hb2 HF HF' HF2;have m3:=y1.c 3 rfl;have n3:=y2.c 3 rfl;have l1:=y1.lt;have l2:=y2.lt;go_wp2_with fail;refine HG2.out.mono ?_;rintro e w3 ⟨rfl,hb3⟩;have hw3:=aa hw2 hb3 hw2.size;have x1:=y1.below hb3 y1.lt;have x2:=y2.below hb3 y2.lt;have HI2:=hidL (eqs.2.2.1 S S' _ _ _ _ ((RSl.fair aO.fair).below HI.out hw3) ((RSl.fair aO.fair).below HI'.out hw3));clear m3 n3 l1 l2 y1 y2 hw2 hb3 HG HG' HG2;have m3:=x1.c 4 rfl;have n3:=x2.c 4 rfl;have l1:=x1.lt;have l2:=x2.lt;go_wp2_with fail;refine HI2.out.mono ?_;rintro e w4 ⟨rfl,hb4⟩;have hw4:=aa hw3 hb4 hw3.size;clear m3 n3 l1 l2 x1 x2 hb4 HI HI' HI2;go_wp2_with fail;go_ret;exact⟨rfl,hw4⟩
theorem adK (S S':Nat→Prop)(v v':Value)(b:av)(w:World)(h1:RSl 5 96 ah S w [v] b)(h2:RSl 5 96 ah S' w [v'] b):Calls prog 104 #[v,v',.func (.func 105) #[] #[]] w (Ret w (.bool true)):=by
 obtain⟨A,d1,rfl,hlc,hlb⟩:=h1.form;obtain⟨A',d2,rfl,hlc',hlb'⟩:=h2.form;have HL:=hidL h1;have HL':=hidL h2;clear h1 h2;go_enter func104,ntmps104;go_wp2_with fail;go_loopw [17] (fun i wr=>∃ k:Nat,i=.int .i64 k∧k≤b.length∧Below w.heap.size w wr) (fun i _=>b.length-(intOf i).toNat)
 case atStart=>exact⟨0,rfl,by omega,Below.refl _ _⟩
 case round =>
  obtain⟨k,rfl,hk,hb⟩:=hrel
  by_cases hlt:k<b.length
  ·obtain⟨lg,lo,rfl,hSl,hgl⟩:=HL.out.base (by omega);obtain⟨mg,mo,rfl,hSm,hgm⟩:=HL'.out.base (by omega);obtain⟨es,_,hrx,hlx⟩:=HL.out.lies hlt;obtain⟨fs,_,hry,hly⟩:=HL'.out.lies hlt;obtain⟨t,ht⟩:=exE (b[k]);rw[←ht] at hrx hry;obtain⟨P2,p2,P3,p3,P4,p4,rfl,-,-,-⟩:=hrx.parts;obtain⟨Q2,q2,Q3,q3,Q4,q4,rfl,-,-,-⟩:=hry.parts;have hc:=hlx.keep (az.of_below hb) hSl;have hd:=hly.keep (az.of_below hb) hSm;have HRx:=hidL hrx;have HRy:=hidL hry;have a0:=hc.at_ 0 rfl;have a1:=hc.at_ 1 rfl;have a2:=hc.at_ 2 rfl;have a3:=hc.at_ 3 rfl;have a4:=hc.at_ 4 rfl;have b0:=hd.at_ 0 rfl;have b1:=hd.at_ 1 rfl;have b2:=hd.at_ 2 rfl;have b3:=hd.at_ 3 rfl;have b4:=hd.at_ 4 rfl;simp only[Nat.add_zero] at a0 b0;have hlg:lg<wr.heap.size:=Nat.lt_of_lt_of_le hgl hb.size;have hmg:mg<wr.heap.size:=Nat.lt_of_lt_of_le hgm hb.size;clear hrx hry hlx hly ht hc hd;go_wp2_with fail;have hw2:=(hb.alloc hb.size (.cells #[.string t.name,.bool t.enum,.slice P2 t.fields.length p2,.slice P3 t.gone.length p3,.slice P4 t.items.length p4] 70));have hw3:=hw2.alloc hw2.size (.cells #[.string t.name,.bool t.enum,.slice Q2 t.fields.length q2,.slice Q3 t.gone.length q3,.slice Q4 t.items.length q4] 70);refine(agw S S' _ _ t _ (ah.fair.below HRx.out hw3) (ah.fair.below HRy.out hw3)).mono ?_;rintro e w4 ⟨rfl,hb4⟩;have hw4:=aa hw3 hb4 hw3.size;clear a0 a1 a2 a3 a4 b0 b1 b2 b3 b4 hlg hmg;go_wp2_with fail;go_roundw
   case rel=>exact⟨k+1,by go_num,by omega,hw4⟩
   case measure=>simp[intOf];omega
  ·go_wp2_with fail;go_ret;exact⟨rfl,hb⟩
theorem Hu (S S':Nat→Prop)(v v':Value)(b:av)(w:World)(h1:RSl 5 96 ah S w [v] b)(h2:RSl 5 96 ah S' w [v'] b):Calls prog 63 #[.agg #[v],.agg #[v']] w (Ret w (.bool true)):=by
 have H1:=hidL h1;have H2:=hidL h2;obtain⟨z1,z2,hb⟩:=bY w [v] [v'] 48 48;have l1:=z1.lt;have l2:=z2.lt;have m1:=z1.c 0 rfl;have m2:=z2.c 0 rfl;clear h1 h2;go_enter func63,ntmps63;go_wp2_with fail;refine(adK S S' _ _ b _ ((RSl.fair ah.fair).below H1.out hb) ((RSl.fair ah.fair).below H2.out hb)).mono ?_;rintro e w1 ⟨rfl,hb1⟩;have hw1:=aa hb hb1 hb.size;clear m1 m2 l1 l2 z1 z2;go_wp2_with fail;go_ret;exact⟨rfl,hw1⟩
theorem RSl.front {α:Type}{sz by_ n c:Nat}{R:Rel α}{S:Nat→Prop}{w:World}{A:Option Addr}{xs ys:List α}(h:RSl sz by_ R S w [.slice A n c] (xs++ys)):RSl sz by_ R S w [.slice A xs.length c] xs:=by
 obtain⟨A',cap,h1,h2,h3,h4⟩:=h;simp only[List.cons.injEq,Value.slice.injEq,and_true] at h1;obtain⟨rfl,-,rfl⟩:=h1;rw[List.length_append] at h2 h3;refine⟨A,c,rfl,by omega,Nat.le_trans (Nat.mul_le_mul_right _ (Nat.le_add_right _ _)) h3,fun k x hx=>h4 k x ?_⟩;rw[List.getElem?_append_left (List.getElem?_eq_some_iff.1 hx).1];exact hx
theorem afE (S S':Nat→Prop)(v v':Value)(b:av)(w:World)(h1:RSl 5 96 ah S w [v] b)(h2:RSl 5 96 ah S' w [v'] b):Calls prog 34 #[.agg #[v],.agg #[v']] w (Ret w (.bool true)):=by
 obtain⟨A,d1,rfl,hlc,hlb⟩:=h1.form;obtain⟨A',d2,rfl,hlc',hlb'⟩:=h2.form;obtain⟨x1,x2,x3⟩:=bY w [.slice A b.length d1] [.slice A' b.length d2] 48 48;have HC:=hidL (Hu S S' _ _ b _ ((RSl.fair ah.fair).below h1 x3) ((RSl.fair ah.fair).below h2 x3));clear h1 h2;go_enter func34,ntmps34;go_wp2_with fail;refine HC.out.mono ?_;rintro e w1 ⟨rfl,hb⟩;have hb1:=aa x3 hb x3.size;clear HC x1 x2 x3 hb;go_wp2_with fail;go_ret;exact⟨rfl,hb1⟩
theorem aef (S S':Nat→Prop)(v v':Value)(l:List fD)(w:World)(hl:RSl 2 48 dw S w [v] l)(hl':RSl 2 48 dw S' w [v'] l):Calls prog 29 #[v,v'] w (Ret w (.bool true)):=by
 obtain⟨A,cap,rfl,hlc,hlb⟩:=hl.form;obtain⟨A',cap',rfl,hlc',hlb'⟩:=hl'.form;have HL:=hidL hl;have HL':=hidL hl';clear hl hl';go_enter func29,ntmps29;go_wp2_with fail;go_loopw [13] (fun i wr=>∃ k:Nat,i=.int .i64 k∧k≤l.length∧Below w.heap.size w wr) (fun i _=>l.length-(intOf i).toNat)
 case atStart=>exact⟨0,rfl,by omega,Below.refl _ _⟩
 case round =>
  obtain⟨k,rfl,hk,hb⟩:=hrel
  by_cases hlt:k<l.length
  ·obtain⟨g,o,es,rfl,hS,hg,hes,hr,hc⟩:=((RSl.fair dw.fair).below HL.out hb).at_ hlt;obtain⟨g',o',es',rfl,hS',hg',hes',hr',hc'⟩:=((RSl.fair dw.fair).below HL'.out hb).at_ hlt;obtain⟨p,hpe⟩:=exE (l[k]);rw[←hpe] at hr hr';clear hpe;obtain⟨vb,vp,rfl,hB,hP⟩:=hr;obtain⟨vb',vp',rfl,hB',hP'⟩:=hr';obtain⟨B1,b1,rfl,-,-⟩:=hB.form;obtain⟨B2,b2,rfl,-,-⟩:=hB'.form;obtain⟨P1,p1,rfl,-,-⟩:=hP.form;obtain⟨P2,p2,rfl,-,-⟩:=hP'.form;have hlk:(k:Int)<l.length:=by omega
   have HS:=hidL (fun W (h:Below wr.heap.size wr W)=>show (fun W'=>World.cell? W' ⟨g,o+k*2,none⟩=some (.slice B1 p.book.length b1)∧World.cell? W' ⟨g,o+k*2+1,none⟩=some (.slice P1 p.parents.length p1)∧World.cell? W' ⟨g',o'+k*2,none⟩=some (.slice B2 p.book.length b2)∧World.cell? W' ⟨g',o'+k*2+1,none⟩=some (.slice P2 p.parents.length p2)) W from⟨(h.cell (p:=⟨g,o+k*2,none⟩) hg).trans (hc.at_ 0 rfl),(h.cell (p:=⟨g,o+k*2+1,none⟩) hg).trans (hc.at_ 1 rfl),(h.cell (p:=⟨g',o'+k*2,none⟩) hg').trans (hc'.at_ 0 rfl),(h.cell (p:=⟨g',o'+k*2+1,none⟩) hg').trans (hc'.at_ 1 rfl)⟩);have HB:=hidL (fun W (h:Below wr.heap.size wr W)=>afE S S' _ _ p.book W ((RSl.fair ah.fair).below hB h) ((RSl.fair ah.fair).below hB' h));have HP:=hidL (fun W (h:Below wr.heap.size wr W)=>eqs.2.2.2.2 S S' _ _ p.parents W ((RSl.fair aQ.fair).below hP h) ((RSl.fair aQ.fair).below hP' h));clear hc hc' hes hes' hg hg' hS hS' hB hB' hP hP';go_upto_region 6 with fail;have hw:=au (Below.refl wr.heap.size wr);have hS:=HS.out _ hw;refine aJ (fun W'=>World.cell? W' ⟨g,o+k*2,none⟩=some (.slice B1 p.book.length b1)∧World.cell? W' ⟨g,o+k*2+1,none⟩=some (.slice P1 p.parents.length p1)∧World.cell? W' ⟨g',o'+k*2,none⟩=some (.slice B2 p.book.length b2)∧World.cell? W' ⟨g',o'+k*2+1,none⟩=some (.slice P2 p.parents.length p2)) (fun _=>true) (by kernel_rfl) ?_;generalize wr.drew=Wd at hw hS ⊢;refine ppP 0 ?_;refine ppP 1 ?_;refine ppP 2 ?_;refine ppP 3 ?_;refine tkP 4 hS ?_;refine ppP 5 ?_;refine ppP 6 ?_;refine ppP 7 ?_;refine ppP 8 ?_;refine tkP 9 hS ?_
   try simp only[pu]
   refine ang 10 (fun K hK=>?_);go_simp;refine(HB.out _ hw).mono ?_;rintro e w5 ⟨rfl,hb5⟩;replace hw:=aa hw hb5 hw.size;replace hS:=HS.out _ hw;clear hb5;refine hK.out _ _ (fun _ _=>hS) ?_;clear hK K
   try simp only[pu]
   refine ppP 11 ?_;refine ppP 12 ?_;refine ppP 13 ?_;refine ppP 14 ?_;refine ppP 15 ?_;refine ppP 16 ?_;refine tkP 17 hS ?_;refine ppP 18 ?_;refine ppP 19 ?_;refine ppP 20 ?_;refine ppP 21 ?_;refine tkP 22 hS ?_
   try simp only[pu]
   refine ang 23 (fun K hK=>?_);go_simp;refine(HP.out _ hw).mono ?_;rintro e w6 ⟨rfl,hb6⟩;replace hw:=aa hw hb6 hw.size;replace hS:=HS.out _ hw;clear hb6;refine hK.out _ _ (fun _ _=>hS) ?_;clear hK K
   try simp only[pu]
   refine ppP 24 ?_;refine ppP 25 ?_
   try simp only[pu]
   refine anf ?_ _;have hb9:=aa hb hw hb.size;clear hw hS HS HB HP;go_wp2_with fail;go_roundw
   case rel=>exact⟨k+1,by go_num,by omega,hb9⟩
   case measure=>simp[intOf];omega
  ·go_wp2_with fail;go_ret;exact⟨rfl,hb⟩
theorem qB {S S':Nat→Prop}{row row':Option Nat}{base base' g g':Nat}{w:World}{s s':cK}(h:bS S row base w g s)(h':bS S' row' base' w g' s')(hc:s.cs=s'.cs)(hr:s.rs=s'.rs)(h1:s.cs.length≤1000)(h2:s.rs.length≤1000) :
  Calls prog 35 #[.pointer (some ⟨g,0,none⟩),.pointer (some ⟨g',0,none⟩)] w (Ret w (.bool true)):=by
 have H:=hidL (fun W (k:Below w.heap.size w W)=>yM (h.below k) h1);have H':=hidL (fun W (k:Below w.heap.size w W)=>yM (h'.below k) (hc ▸ h1));have R:=hidL (fun W (k:Below w.heap.size w W)=>Au (h.below k) h2);have R':=hidL (fun W (k:Below w.heap.size w W)=>Au (h'.below k) (hr ▸ h2));rw[←hc] at H';rw[←hr] at R';clear h h' h1 h2;go_enter func35,ntmps35;go_wp2_with fail;refine(H.out _ (Below.refl _ _)).mono ?_;rintro e w1 ⟨v1,rfl,hv1,hw1⟩;have HB1:=hidL (H'.out _ hw1);have HV1:=hidL hv1;clear hv1 H H';go_wp2_with fail;refine HB1.out.mono ?_;rintro e w2 ⟨v2,rfl,hv2,hb2⟩;have hw2:=aa hw1 hb2 hw1.size;have HX:=hidL (aef _ _ _ _ _ _ ((RSl.fair dw.fair).below HV1.out hb2) hv2);clear hw1 hb2 hv2 HB1 HV1;go_wp2_with fail;refine HX.out.mono ?_;rintro e w3 ⟨rfl,hb3⟩;have hw3:=aa hw2 hb3 hw2.size;have HC:=hidL (R.out _ hw3);clear hw2 hb3 HX;go_wp2_with fail;refine HC.out.mono ?_;rintro e w4 ⟨v4,rfl,hv4,hb4⟩;have hw4:=aa hw3 hb4 hw3.size;have HD:=hidL (R'.out _ hw4);have HV4:=hidL hv4;clear hw3 hb4 hv4 HC R R';go_wp2_with fail;refine HD.out.mono ?_;rintro e w5 ⟨v5,rfl,hv5,hb5⟩;have hw5:=aa hw4 hb5 hw4.size;have HY:=hidL (eqs.2.2.2.1 _ _ _ _ _ _ ((RSl.fair iG.fair).below HV4.out hb5) hv5);clear hw4 hb5 hv5 HD HV4;go_wp2_with fail;refine HY.out.mono ?_;rintro e w6 ⟨rfl,hb6⟩;have hw6:=aa hw5 hb6 hw5.size;clear hw5 hb6 HY;go_wp2_with fail;go_ret;exact⟨rfl,hw6⟩
theorem ams {B base:Nat}{w0:World}(hB:B≤w0.heap.size):aim 31 [] base w0 (fun _ _ _ _ S=>∀ y,S y→B≤y):=by
 intro s a g W W1 row row' S S' cs hok hkp hac hfit hbW hI hN hT hb1 hN1 hS' hr' hrep;have hI2:∀ y,S' y→B≤y:=fun y h=>(hS' y h).elim (hI y) (fun k=>by have:=hbW.size;omega)
 have HI2:=hidL hI2;obtain⟨vf,rfl,hrf⟩:=hrep;obtain⟨AF,kF,rfl,-,-⟩:=hrf.form;obtain⟨r,hr⟩:=exE (doF s a);rw[←hr] at hN1 ⊢;obtain⟨⟨rc,rn,rt,rf⟩,s2⟩:=r;obtain⟨ak,an,am,nm,ot,tx⟩:=a;dsimp only[fQ];obtain⟨x1,x2,x3⟩:=bY W1 [.int .i64 ak,.int .i64 an,.int .i64 am,.string nm,.string ot,.string tx] [.int .i64 rc,.int .i64 rn,.string rt,.slice AF rf.length kF] 28 32;have hN2:=hidL (hN1.below x3);have hb2:=hidL (x3.mono hb1.size);clear hok hkp hac hfit hbW hI hI2 hN hT hb1 hN1 hS' hr' hrf hr x1 x2 x3;go_enter func31,ntmps31;go_wp2_with fail;go_ret;exact⟨rfl,hb2.out,hN2.out,HI2.out⟩
def Far (row:Option Nat)(g:Nat)(row2:Option Nat)(g2:Nat)(S2:Nat→Prop):Prop:=g2≠g∧row≠some g2∧row2≠some g∧(∀ k,row2=some k→row≠some k)∧¬ S2 g∧∀ k,row=some k→¬ S2 k
section
variable {S S2 S':Nat→Prop}{row row2 row':Option Nat}{b1 b2 g g2:Nat}{w w':World}{s1 s2:cK}
theorem bS.touch (h:bS S2 row2 b2 w g2 s2)(ht:Touch row g w w')(hf:Far row g row2 g2 S2):bS S2 row2 b2 w' g2 s2:=by
 obtain⟨h1,h2,h3,h4,h5,h6⟩:=hf;obtain⟨vc,vr,a1,a2,a3,a4,a5,a6,a7,a8⟩:=h;refine⟨vc,vr,a1,a2.touch ht h1 h2,(RSl.fair dw.fair).keep a3 (ht.keep h5 h6),a4.air iG.fair (S:=fun y=>y≠g∧row≠some y) ⟨ht.size,fun y hy hl=>ht.block y hl hy.1 hy.2⟩ (fun k e=>⟨?_,h4 k (a1 ▸ e)⟩),a5,a6,fun y hy=>Nat.lt_of_lt_of_le (a7 y hy) ht.size,a8⟩;rintro rfl;exact h3 (a1 ▸ e)
end
def Duo (b1 b2:Nat)(W:World)(g1 g2:Nat)(s1 s2:cK):Prop:=∃ row1 row2 S1 S2,bS S1 row1 b1 W g1 s1∧bS S2 row2 b2 W g2 s2∧Far row1 g1 row2 g2 S2∧Far row2 g2 row1 g1 S1
section
variable {S S2 S':Nat→Prop}{row row2 row':Option Nat}{b1 b2 g g2:Nat}{w w':World}{s1 s2:cK}
theorem Duo.swap (h:Duo b1 b2 w g g2 s1 s2):Duo b2 b1 w g2 g s2 s1:=by
 obtain⟨r1,r2,S1,S2,h1,h2,h3,h4⟩:=h;exact⟨r2,r1,S2,S1,h2,h1,h4,h3⟩
theorem Duo.below (h:Duo b1 b2 w g g2 s1 s2)(hb:Below w.heap.size w w'):Duo b1 b2 w' g g2 s1 s2:=by
 obtain⟨r1,r2,S1,S2,h1,h2,h3,h4⟩:=h;exact⟨r1,r2,S1,S2,h1.below hb,h2.below hb,h3,h4⟩
theorem anM (a:mG)(h:Duo b1 b2 w g g2 s1 s2)(hk:gY s1)(ha:a.name.size≤140737488351232)(ht:a.text.size≤140737488351232)(hb:b1≤w.heap.size)(hG:qW b1 w) :
  Calls prog 32 #[.pointer (some ⟨g,0,none⟩),.agg (fQ a).toArray] w (fun e w'=>∃ cs T,e=.returned (.agg cs.toArray)∧jd T w' cs (doF s1 a).1∧(∀ y,T y→w.heap.size≤y)∧Duo b1 b2 w' g g2 (doF s1 a).2 s2∧Below b1 w w'):=by
 obtain⟨r1,r2,S1,S2,h1,h2,h3,h4⟩:=h;refine(WL a h1 hk ha ht hb hG).mono ?_;rintro e w' ⟨cs,S',row',rfl,hr,hn,hS,hrow,hT⟩;have hg:=h2.gLt;have hr2:∀ k,r2=some k→k<w.heap.size:=fun k e=>by subst e;exact h2.GM.2
 have hS2:∀ y,S2 y→y<w.heap.size:=by obtain⟨_,_,_,_,_,_,_,_,a7,_⟩:=h2;exact a7
 refine⟨cs,_,rfl,hr,fun y h=>h.1,⟨row',r2,S',S2,hn,h2.touch hT h3,⟨h3.1,?_,h3.2.2.1,fun k e=>?_,h3.2.2.2.2.1,fun k e=>?_⟩,⟨h4.1,h4.2.1,?_,fun k e=>?_,fun h=>?_,fun k e h=>?_⟩⟩,h1.KE hT hb⟩
 ·rcases hrow with rfl|hrow
  ·exact h3.2.1
  ·intro e;have:=hrow _ e;omega
 ·rcases hrow with rfl|hrow
  ·exact h3.2.2.2.1 k e
  ·intro e2;have:=hrow _ e2;have:=hr2 k e;omega
 ·rcases hrow with rfl|hrow
  ·exact h3.2.2.2.2.2 k e
  ·intro h;have:=hrow _ e;have:=hS2 k h;omega
 ·rcases hrow with rfl|hrow
  ·exact h4.2.2.1
  ·intro e;have:=hrow _ e;omega
 ·rcases hrow with rfl|hrow
  ·exact h4.2.2.2.1 k e
  ·intro e2;have:=hrow _ e;have:=hr2 k e2;omega
 ·exact(hS _ h).elim h4.2.2.2.2.1 (fun k=>by omega)
 ·exact(hS _ h).elim (h4.2.2.2.2.2 k e) (fun j=>by have:=hr2 k e;omega)
theorem anP (h:Duo b1 b2 w g g2 s1 s2)(hc:s1.cs=s2.cs)(hr:s1.rs=s2.rs)(h1:s1.cs.length≤1000)(h2:s1.rs.length≤1000):Calls prog 35 #[.pointer (some ⟨g2,0,none⟩),.pointer (some ⟨g,0,none⟩)] w (Ret w (.bool true)):=by
 obtain⟨r1,r2,S1,S2,k1,k2,-,-⟩:=h;exact qB k2 k1 hc.symm hr.symm (hc ▸ h1) (hr ▸ h2)
end
theorem anI (l:List mG):gY (aeF l)∧iL (aeF l)∧(aeF l).acts=(min l.length 40:Nat):=by
 unfold aeF;have h:=aet (l.take 40) (l.take 40).length (Nat.le_refl _) (by simp;omega);rw[List.take_length] at h;exact⟨h.1,h.2.1,by rw[h.2.2];simp[Nat.min_comm]⟩
theorem anB {S:Nat→Prop}{A:Option Addr}{cap:Nat}{l:List mG}{w:World}(hl:RSl 6 72 Tn S w [.slice A l.length cap] l)(hfit:∀ a∈l,IM a)(hG:qW w.heap.size w) :
  Calls prog 14 #[.slice A l.length cap,Value.func (.func 31) #[] #[]] w (fun e w2=>∃ g row S1,e=.returned (.tuple #[.pointer (some ⟨g,0,none⟩),.bool true])∧bS S1 row w.heap.size w2 g (aeF l)∧(∀ y,S1 y→w.heap.size≤y)∧Below w.heap.size w w2):=by
 refine(SI 31 [] (enters_of func31 (by kernel_rfl) rfl) A cap l S w w hl hfit (Below.refl _ _) hG (ams (Nat.le_refl _)) (fun _ _ _ _ _ _ h=>h.elim)).mono ?_;rintro e w2 ⟨g,row,S1,rfl,h1,h2,h3⟩;exact⟨g,row,S1,rfl,h1,h2,h3⟩
theorem anO {S:Nat→Prop}{A:Option Addr}{cap:Nat}{l:List mG}{w w2:World}{g:Nat}{row:Option Nat}{S1:Nat→Prop}(hl:RSl 6 72 Tn S w [.slice A l.length cap] l)(hfit:∀ a∈l,IM a)(h0:Below w.heap.size w w2)(hG:qW w.heap.size w)(hr:bS S1 row w.heap.size w2 g (aeF l)) :
  Calls prog 14 #[.slice A l.length cap,Value.func (.func 31) #[] #[]] w2 (fun e w3=>∃ g2,e=.returned (.tuple #[.pointer (some ⟨g2,0,none⟩),.bool true])∧Duo w.heap.size w2.heap.size w3 g g2 (aeF l) (aeF l)∧Below w2.heap.size w2 w3):=by
 refine(anB ((RSl.fair Tn.fair).below hl h0) hfit ((hG.below h0).more h0.size)).mono ?_;rintro e w3 ⟨g2,row2,S2,rfl,hr2,hS2,hb⟩;have hg:=hr.gLt;have hg2:w2.heap.size≤g2:=by obtain⟨_,_,_,_,_,_,_,_,_,h⟩:=hr2;exact h
 have k1:∀ k,row=some k→k<w2.heap.size:=fun k e=>by subst e;exact hr.GM.2
 have k2:∀ k,row2=some k→w2.heap.size≤k:=fun k e=>by subst e;exact hr2.GM.1
 have hS1:∀ y,S1 y→y<w2.heap.size:=by obtain⟨_,_,_,_,_,_,_,_,a7,_⟩:=hr;exact a7
 exact⟨g2,rfl,⟨row,row2,S1,S2,hr.below hb,hr2,⟨by omega,fun e=>by have:=k1 _ e;omega,fun e=>by have:=k2 _ e;omega,fun k e e2=>by have:=k1 _ e2;have:=k2 _ e;omega,fun h=>by have:=hS2 _ h;omega,fun k e h=>by have:=k1 _ e;have:=hS2 _ h;omega⟩,
  ⟨by omega,fun e=>by have:=k2 _ e;omega,fun e=>by have:=k1 _ e;omega,fun k e e2=>by have:=k2 _ e2;have:=k1 _ e;omega,fun h=>by have:=hS1 _ h;omega,fun k e h=>by have:=k2 _ e;have:=hS1 _ h;omega⟩⟩,hb⟩
def Aw (e:Int):Prop:=e≠8∧e≠9
theorem aw (e:Int)(h:e≠8∧e≠9:=by decide):Aw e:=h
theorem UD {b:av}:aB b=0∨aB b=1∨aB b=7:=by
 unfold aB;repeat' split
 all_goals simp
theorem Mt (w a b:av):((fC w a b).2.2=9)↔0<(fC w a b).2.1.length:=by
 unfold fC;split
 ·simp
 split
 ·rename_i h;simpa using h
 split
 ·have:=UD (b:=yA w a b);simp;omega
 ·simp
theorem LM (b:av):Aw (aB b):=by
 rcases UD (b:=b) with h|h|h<;>rw[h] <;> exact⟨by decide,by decide⟩
theorem VQ (b:av)(f:ay)(v:aj):Aw (eO b f v):=by
 unfold eO
 repeat' split
 all_goals exact⟨by decide,by decide⟩
theorem adi (t:ax)(last:Option Int)(id:Int):Aw (mJ t last id):=by
 unfold mJ
 repeat' split
 all_goals exact⟨by decide,by decide⟩
mutual
theorem SY (b:av):∀ (t:ax) (v:aj),Aw (cz b t v)
 | t,.mk kind n s ids l=>by
  rw[cz];repeat' split
  all_goals first|exact aw _|exact JI b t none ids l
theorem JI (b:av):∀ (t:ax) (last:Option Int) (ids:List Int) (l:List aj),Aw (eT b t last ids l)
 | _,_,_,[]=>by rw[eT];exact aw 0
 | _,_,[],_::_=>by rw[eT];exact aw 0
 | t,last,id::ids,x::l=>by
  rw[eT];repeat' split
  all_goals first|exact adi _ _ _|exact VQ _ _ _|exact SY b _ x|exact JI b t (some id) ids l
end
theorem abU (b:av)(name:ByteArray)(v:aj):Aw (dQ b name v):=by
 unfold dQ;repeat' split
 all_goals first|exact aw _|exact SY _ _ _
theorem Ux:∀ (l:List Part) (acc:List UInt8),Aw (jD l acc).2
 | [],_=>aw 0
 | p::l,acc=>by
  rw[jD];repeat' split
  all_goals first|exact aw _|exact Ux l _
mutual
theorem Vt:∀ v:aj,Aw (dI v).2
 | .mk _ _ _ ids l=>by
  rw[dI];split
  ·exact RU ids l []
  ·exact Ux _ _
theorem RU:∀ (ids:List Int) (l:List aj) (acc:List Part),Aw (eH ids l acc).2
 | _,[],_=>by rw[eH];exact aw 0
 | [],_::_,_=>by rw[eH];exact aw 0
 | id::ids,x::l,acc=>by
  rw[eH];split
  ·exact Vt x
  ·exact RU ids l _
end
theorem YO (b:av)(name:ByteArray)(v:aj):Aw (iF b name v).2:=by
 unfold iF;split
 ·exact abU _ _ _
 ·exact Vt _
theorem Uv:∀ (f:Nat) (s:List UInt8) (acc:List Part),Aw (tZ f s acc).2
 | 0,_,_=>aw 0
 | f+1,s,acc=>by
  rw[tZ];repeat' split
  all_goals first|exact aw _|exact aw 0|exact Uv f _ _
theorem afi (s:List UInt8):Aw (mV s).2:=by
 unfold mV;split
 ·exact aw 7
 ·exact Uv _ _ _
theorem BV (b:av)(rec:ax→List UInt8→aj × Int)(hr:∀ t s,Aw (rec t s).2)(t:ax):∀ (ps:List Part) (last:Option Int) (ids:List Int) (l:List aj),Aw (gm b rec t last ps ids l).2
 | [],_,_,_=>by rw[gm];exact aw 0
 | p::ps,last,ids,l=>by
  rw[gm];repeat' split
  all_goals first|exact aw _|exact BV b rec hr t ps _ _ _|exact VQ _ _ _|exact hr _ _
theorem Wi (b:av):∀ (k:Nat) (t:ax) (s:List UInt8),Aw (iN b k t s).2
 | 0,_,_=>by rw[iN];exact aw 7
 | k+1,t,s=>by
  rw[iN];repeat' split
  all_goals first|exact aw _|exact aw 0|exact afi _|exact BV b _ (Wi b k) t _ _ _ _
theorem Ng (b:av)(name:ByteArray)(s:List UInt8):Aw (fZ b name s).2:=by
 unfold fZ;repeat' split
 all_goals first|exact aw _|exact aw 0|exact Wi _ _ _ _
theorem adH (s:List UInt8):Aw (iZ s).2:=by
 unfold iZ;split
 ·exact aw 7
 split
 ·exact aw 1
 ·dsimp only;split
  ·exact aw 1
  split
  ·exact LM _
  ·exact aw 0
theorem adk (b:av):Aw (pU b).2:=by
 unfold pU;split
 ·exact LM _
 ·exact aw 0
def Told (r:kR):Prop:=(r.code=8∨r.code=9)↔0<r.flaws.length
theorem mX {e:Int}(h:Aw e):Told (dY e):=⟨fun k=>k.elim (fun k=>absurd k h.1) (fun k=>absurd k h.2),fun k=>absurd k (Nat.lt_irrefl 0)⟩
theorem PZ (n:Int):Told (oJ n):=mX (e:=0) (aw 0)
theorem ajO (n:Int)(t:ByteArray):Told ⟨0,n,t,[]⟩:=mX (e:=0) (aw 0)
theorem ado {l:List aX}(h:l≠[]):Told ⟨8,0,⟨#[]⟩,l⟩:=⟨fun _=>List.length_pos_iff.2 h,fun _=>.inl rfl⟩
theorem Tc (s:cK)(k:Nat)(b:av)(ps:List Int):Told (wP s k b ps).1:=by
 unfold wP;repeat' split
 ·exact mX (aw 12)
 ·rename_i h;exact ado h
 ·exact PZ _
theorem VI (s:cK)(k:Nat)(tt:Int):Told (moveF s k tt).1:=by
 unfold moveF;repeat' split
 ·exact mX (aw 3)
 ·rename_i h;exact ado h
 ·exact PZ _
theorem Zq (w a b:av):(fC w a b).2.2≠8:=by
 unfold fC;repeat' split
 all_goals first|exact(LM _).1|(dsimp only;decide)
theorem ade (s:cK)(k:Nat)(other:Int):Told (zC s k other).1:=by
 unfold zC;dsimp only;generalize (if 0≤xz s.cs (fH s.rs k).commit other then ib s.cs (xz s.cs (fH s.rs k).commit other) else [])=was;split
 ·show (_∨_)↔_;rw[←Mt];exact⟨fun h=>h.elim (fun h=>absurd h (Zq _ _ _)) id,.inr⟩
 ·exact Tc _ _ _ _
theorem YX (s:cK)(k:Nat)(a:mG):Told (uQ s k a).1:=by
 unfold uQ;repeat' split
 all_goals first|exact PZ _|exact mX (aw _)|exact ade _ _ _|exact VI _ _ _|(rename_i h;exact ado h)
theorem aaE (s:cK)(a:mG):Told (uP s a).1:=by
 unfold uP;repeat' split
 all_goals first|exact mX (aw _)|exact mX (adH _)|exact Tc _ _ _ _|(dsimp only;split <;> exact Tc _ _ _ _)
theorem Zx (s:cK)(a:mG):Told (dY (lJ s a).1):=by
 unfold lJ
 repeat' split
 all_goals exact mX ⟨by simp,by simp⟩
theorem anb (s:cK)(a:mG):Told (doF s a).1:=by
 unfold doF zw Nh CL;repeat' split
 all_goals try dsimp only
 all_goals repeat' split
 all_goals first|exact mX (aw _)|exact aaE _ _|exact Zx _ _|exact YX _ _ _|exact mX (adk _)|exact mX (Ng _ _ _)|exact mX (YO _ _ _)|exact ajO _ _
theorem anJ (S:Nat→Prop)(v:Value)(l:List mG)(a:mG)(w:World)(hl:RSl 6 72 Tn S w [v] l)(hfit:∀ a∈l,IM a)(ha:IM a)(hG:qW w.heap.size w):Calls prog 10 #[v,.agg (fQ a).toArray] w (Ret w (.bool true)):=by
 obtain⟨A,cap,rfl,-,-⟩:=hl.form;obtain⟨hok,hkp,hac⟩:=anI l;have hst:=OU (a:=a) hok hkp (by omega);have htd:=anb (aeF l) a;have x1:=Box.new w 28 (fQ a);have hx:=(Below.here w).alloc (Nat.le_refl _) (.cells (fQ a).toArray 28);have HL:=hidL ((RSl.fair Tn.fair).below hl hx);have HG:=hidL ((hG.below hx).more hx.size);have HF:=hidL hfit;have HA:=hidL ha;have HO:=hidL hok;have HST:=hidL hst;have HTD:=hidL htd;clear hl hfit ha hG hok hkp hac hst htd;obtain⟨ak,an,am,nm,ot,tx⟩:=a;dsimp only[fQ] at x1 hx HL HG ⊢;go_enter func10,ntmps10;go_upto_region 1 with fail;have hx1:=x1.lt;have hs1:=hx.size;generalize World.alloc w _=W1 at x1 hx hx1 hs1 HL HG ⊢;have HP:=hidL (anB HL.out HF.out HG.out);go_wp2_with fail;refine HP.out.mono ?_;rintro e w2 ⟨g,row,S1,rfl,hr,-,hb2⟩;have HQ:=hidL (anO HL.out HF.out hb2 HG.out hr);have X2:=hidL (x1.below hb2 hx1);have hz2:=hb2.size;clear x1 hx1 hr HP;go_wp2_with fail;refine HQ.out.mono ?_;rintro e w3 ⟨g2,rfl,hd,hb3⟩;clear HQ;generalize aeF l=s0 at hd HO HST HTD;have X3:=X2.out.below hb3 X2.out.lt;have hb13:=aa hb2 hb3 hz2;have HD:=hidL (anM ⟨ak,an,am,nm,ot,tx⟩ hd HO.out HA.out.1 HA.out.2.2 hb13.size (HG.out.below hb13));have a0:=X3.c 0 rfl;have a1:=X3.c 1 rfl;have a2:=X3.c 2 rfl;have a3:=X3.c 3 rfl;have a4:=X3.c 4 rfl;have a5:=X3.c 5 rfl;have xl:=X3.lt;dsimp only[fQ] at HD;clear X2 X3 hd hb2 hb3 hz2 HL;go_wp2_with fail;refine HD.out.mono ?_;obtain⟨r,hr⟩:=exE (doF s0 ⟨ak,an,am,nm,ot,tx⟩);rw[←hr] at HST HTD ⊢;clear HD hr a0 a1 a2 a3 a4 a5 xl;obtain⟨⟨rc,rn,rt,rf⟩,s2⟩:=r;rintro e w4 ⟨cs,T,rfl,⟨vf,rfl,hrf⟩,-,hd4,hb4⟩;obtain⟨AF,kF,rfl,-,-⟩:=hrf.form;have hb14:=hb13.trans hb4;clear hrf hb13 hb4;go_upto_region 6 with fail;have z:=Box.new w4 32 [.int .i64 rc,.int .i64 rn,.string rt,.slice AF rf.length kF];have hbx:=(Below.here w4).alloc (Nat.le_refl _) (.cells [.int .i64 rc,.int .i64 rn,.string rt,.slice AF rf.length kF].toArray 32);have hd5:=hd4.below hbx;have hb15:=aa hb14 hbx hb14.size;have hb5:=(hb15.mono hs1);replace hb5:=hx.trans hb5;clear hd4 hbx hb14 hb15;generalize w4.heap.size=Z at z ⊢;generalize World.alloc w4 _=W5 at z hd5 hb5 ⊢;have z0:=z.c 0 rfl;have z1:=z.c 1 rfl;have z2:=z.c 2 rfl;have z3:=z.c 3 rfl;have zl:=z.lt;have hno:=HST.out.no;have hpl:=HST.out.plain;have htd:Told ⟨rc,rn,rt,rf⟩:=HTD.out;have hm1:=HO.out.most;dsimp only at hno hpl;unfold Told at htd;dsimp only at htd;clear z HST HTD HG HF HA hs1 hx
 by_cases h0:rc=0
 ·subst h0;have e3:decide ((rf.length:Int) > 0)=false:=by simp at htd ⊢;omega
  have e3':decide ((0:Int)<rf.length)=false:=by simp at htd ⊢;omega
  clear hno hpl htd hd5 HO hm1;go_wp2_with fail;go_ret;exact⟨rfl,hb5⟩
 ·obtain⟨rfl,rfl⟩:=hpl h0;obtain rfl:=hno h0;have HS:=hidL (anP hd5 rfl rfl (by show s0.cs.length≤_;omega) (by show s0.rs.length≤_;omega));clear hno hpl hd5 HO hm1;rcases (by omega:rc=8∨rc=9∨(rc≠8∧rc≠9)) with rfl|rfl|⟨n8,n9⟩
  iterate 2 have e3:0<rf.length:=htd.1 (by simp);clear htd h0;rotate_left
  obtain rfl:rf=[]:=List.eq_nil_of_length_eq_zero (by omega);have e0:(rc==0)=false:=by simpa using h0
  have e8:(rc==8)=false:=by simpa using n8
  have e9:(rc==9)=false:=by simpa using n9
  clear htd h0 n8 n9
  all_goals go_wp2_with fail;refine HS.out.mono ?_;rintro e w6 ⟨rfl,hb6⟩;have hb9:=aa hb5 hb6 hb5.size;clear hb5 hb6 HS;go_wp2_with fail;go_ret;exact⟨rfl,hb9⟩
end Go.Proofs.YthhldfpmhmocfaaGreatDoor
