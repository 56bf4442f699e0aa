/- Walks and plain laws. -/
import Derived.Test.YthhldfpmhmocfaaGreatDoorMwalks
set_option linter.all false
set_option maxRecDepth 100000
set_option maxHeartbeats 8000000
namespace Go.Proofs.YthhldfpmhmocfaaGreatDoor
open Go.Proofs.Tryz
open Go.RowKit
theorem sK:prog.eqGuardType prog.depth 72=false:=by kernel_rfl
theorem xK:prog.eqGuardType prog.depth 74=false:=by kernel_rfl
theorem yQ:prog.underlying 74=some (.struct (prog.fieldsOf 74)):=by kernel_rfl
theorem Fa:prog.stoodInHeld 74=false:=by kernel_rfl
theorem uO (p:ay)(W:World):(binOp .neq 72 (.agg #[.int .i64 p.id,.string p.name,.string p.type,.int .i64 p.kind,.int .i64 p.rule]) (.agg #[.int .i64 p.id,.string p.name,.string p.type,.int .i64 p.kind,.int .i64 p.rule])).run prog W=.ok (.bool false) W:=by
 have h:=run_equalIn_agg (P:=prog) W 9999 72 #[.int .i64 p.id,.string p.name,.string p.type,.int .i64 p.kind,.int .i64 p.rule] #[.int .i64 p.id,.string p.name,.string p.type,.int .i64 p.kind,.int .i64 p.rule] oI rR;rw[run_neq_struct,h];simp[go_sem]
theorem wJ (p:dC)(W:World):(binOp .neq 74 (.agg #[.string p.name,.int .i64 p.n]) (.agg #[.string p.name,.int .i64 p.n])).run prog W=.ok (.bool false) W:=by
 have h:=run_equalIn_agg (P:=prog) W 9999 74 #[.string p.name,.int .i64 p.n] #[.string p.name,.int .i64 p.n] yQ Fa;rw[run_neq_struct,h];simp[go_sem]
theorem ahI (S S':Nat→Prop)(v v':Value)(l:List ay)(w:World)(hl:RSl 5 56 aH S w [v] l)(hl':RSl 5 56 aH S' w [v'] l):Calls prog 106 #[v,v'] w (Ret w (.bool true)):=by
 obtain⟨A,cap,rfl,hlc,hlb⟩:=hl.form;obtain⟨A',cap',rfl,hlc',hlb'⟩:=hl'.form;have HL:=hidL hl;have HL':=hidL hl';clear hl hl';go_enter func106,ntmps106;go_wp2_with fail;go_loopw [13] (fun i wr=>∃ k:Nat,i=.int .i64 k∧k≤l.length∧Below w.heap.size w wr) (fun i _=>l.length-(intOf i).toNat)
 case atStart=>exact⟨0,rfl,by omega,Below.refl _ _⟩
 case round =>
  obtain⟨k,rfl,hk,hb⟩:=hrel
  by_cases hlt:k<l.length
  ·obtain⟨g,o,es,rfl,hS,hg,hes,hr,hc⟩:=((RSl.fair aH.fair).below HL.out hb).at_ hlt;obtain⟨g',o',es',rfl,hS',hg',hes',hr',hc'⟩:=((RSl.fair aH.fair).below HL'.out hb).at_ hlt;obtain⟨p,hpe⟩:=exE (l[k]);rw[←hpe] at hr hr';clear hpe;have e1:es=aI p:=hr;have e2:es'=aI p:=hr';subst e1 e2;have c0:wr.cell? ⟨g,o+k*5,none⟩=some (.int .i64 p.id):=hc.at_ 0 rfl;have d0:wr.cell? ⟨g',o'+k*5,none⟩=some (.int .i64 p.id):=hc'.at_ 0 rfl;have c1:wr.cell? ⟨g,o+k*5+1,none⟩=some (.string p.name):=hc.at_ 1 rfl;have d1:wr.cell? ⟨g',o'+k*5+1,none⟩=some (.string p.name):=hc'.at_ 1 rfl;have c2:wr.cell? ⟨g,o+k*5+2,none⟩=some (.string p.type):=hc.at_ 2 rfl;have d2:wr.cell? ⟨g',o'+k*5+2,none⟩=some (.string p.type):=hc'.at_ 2 rfl;have c3:wr.cell? ⟨g,o+k*5+3,none⟩=some (.int .i64 p.kind):=hc.at_ 3 rfl;have d3:wr.cell? ⟨g',o'+k*5+3,none⟩=some (.int .i64 p.kind):=hc'.at_ 3 rfl;have c4:wr.cell? ⟨g,o+k*5+4,none⟩=some (.int .i64 p.rule):=hc.at_ 4 rfl;have d4:wr.cell? ⟨g',o'+k*5+4,none⟩=some (.int .i64 p.rule):=hc'.at_ 4 rfl;have hgd:=sK;have hneq:=fun W=>uO p W
   clear hr hr' hc hc' hes hes' hg hg' hS hS';go_wp2_with fail
   go_quiet (fail)
   go_wp2_with fail;go_roundw
   case rel=>exact⟨k+1,by go_num,by omega,below_drewN hb _⟩
   case measure=>simp[intOf];omega
  ·go_wp2_with fail;go_ret;exact⟨rfl,hb⟩
theorem aiA (S S':Nat→Prop)(v v':Value)(l:List Int)(w:World)(hl:RSl 1 8 aQ S w [v] l)(hl':RSl 1 8 aQ S' w [v'] l):Calls prog 107 #[v,v'] w (Ret w (.bool true)):=by
 obtain⟨A,cap,rfl,hlc,hlb⟩:=hl.form;obtain⟨A',cap',rfl,hlc',hlb'⟩:=hl'.form;have HL:=hidL hl;have HL':=hidL hl';clear hl hl';go_enter func107,ntmps107;go_wp2_with fail;go_loopw [13] (fun i wr=>∃ k:Nat,i=.int .i64 k∧k≤l.length∧Below w.heap.size w wr) (fun i _=>l.length-(intOf i).toNat)
 case atStart=>exact⟨0,rfl,by omega,Below.refl _ _⟩
 case round =>
  obtain⟨k,rfl,hk,hb⟩:=hrel
  by_cases hlt:k<l.length
  ·obtain⟨g,o,es,rfl,hS,hg,hes,hr,hc⟩:=((RSl.fair aQ.fair).below HL.out hb).at_ hlt;obtain⟨g',o',es',rfl,hS',hg',hes',hr',hc'⟩:=((RSl.fair aQ.fair).below HL'.out hb).at_ hlt;obtain⟨p,hpe⟩:=exE (l[k]);rw[←hpe] at hr hr';clear hpe;have e1:es=[.int .i64 p]:=hr;have e2:es'=[.int .i64 p]:=hr';subst e1 e2;have c0:wr.cell? ⟨g,o+k,none⟩=some (.int .i64 p):=by have:=hc.at_ 0 rfl;simpa using this
   have d0:wr.cell? ⟨g',o'+k,none⟩=some (.int .i64 p):=by have:=hc'.at_ 0 rfl;simpa using this
   clear hr hr' hc hc' hes hes' hg hg' hS hS';go_wp2_with fail
   go_quiet (fail)
   go_wp2_with fail;go_roundw
   case rel=>exact⟨k+1,by go_num,by omega,below_drewN hb _⟩
   case measure=>simp[intOf];omega
  ·go_wp2_with fail;go_ret;exact⟨rfl,hb⟩
theorem ajP (S S':Nat→Prop)(v v':Value)(l:List dC)(w:World)(hl:RSl 2 24 aO S w [v] l)(hl':RSl 2 24 aO S' w [v'] l):Calls prog 108 #[v,v'] w (Ret w (.bool true)):=by
 obtain⟨A,cap,rfl,hlc,hlb⟩:=hl.form;obtain⟨A',cap',rfl,hlc',hlb'⟩:=hl'.form;have HL:=hidL hl;have HL':=hidL hl';clear hl hl';go_enter func108,ntmps108;go_wp2_with fail;go_loopw [13] (fun i wr=>∃ k:Nat,i=.int .i64 k∧k≤l.length∧Below w.heap.size w wr) (fun i _=>l.length-(intOf i).toNat)
 case atStart=>exact⟨0,rfl,by omega,Below.refl _ _⟩
 case round =>
  obtain⟨k,rfl,hk,hb⟩:=hrel
  by_cases hlt:k<l.length
  ·obtain⟨g,o,es,rfl,hS,hg,hes,hr,hc⟩:=((RSl.fair aO.fair).below HL.out hb).at_ hlt;obtain⟨g',o',es',rfl,hS',hg',hes',hr',hc'⟩:=((RSl.fair aO.fair).below HL'.out hb).at_ hlt;obtain⟨p,hpe⟩:=exE (l[k]);rw[←hpe] at hr hr';clear hpe;have e1:es=dD p:=hr;have e2:es'=dD p:=hr';subst e1 e2;have c0:wr.cell? ⟨g,o+k*2,none⟩=some (.string p.name):=hc.at_ 0 rfl;have d0:wr.cell? ⟨g',o'+k*2,none⟩=some (.string p.name):=hc'.at_ 0 rfl;have c1:wr.cell? ⟨g,o+k*2+1,none⟩=some (.int .i64 p.n):=hc.at_ 1 rfl;have d1:wr.cell? ⟨g',o'+k*2+1,none⟩=some (.int .i64 p.n):=hc'.at_ 1 rfl;have hgd:=xK;have hneq:=fun W=>wJ p W
   clear hr hr' hc hc' hes hes' hg hg' hS hS';go_wp2_with fail
   go_quiet (fail)
   go_wp2_with fail;go_roundw
   case rel=>exact⟨k+1,by go_num,by omega,below_drewN hb _⟩
   case measure=>simp[intOf];omega
  ·go_wp2_with fail;go_ret;exact⟨rfl,hb⟩
theorem Ck:∀ (l:List UInt8),Lib.compareBytes l l=0
 | []=>by simp[Lib.compareBytes]
 | a::l=>by
  unfold Lib.compareBytes;have h:¬ a<a:=UInt8.lt_irrefl a;rw[if_neg h,if_neg h];exact Ck l
theorem agw (S S':Nat→Prop)(cs cs':List Value)(t:ax)(w:World)(ht:ah S w cs t)(ht':ah S' w cs' t):Calls prog 105 #[.agg cs.toArray,.agg cs'.toArray] w (Ret w (.bool true)):=by
 obtain⟨P2,p2,P3,p3,P4,p4,rfl,hF,hG,hI⟩:=ht.parts;obtain⟨Q2,q2,Q3,q3,Q4,q4,rfl,hF',hG',hI'⟩:=ht'.parts;have HF:=hidL hF;have HF':=hidL hF';have HG:=hidL hG;have HG':=hidL hG';have HI:=hidL hI;have HI':=hidL hI';obtain⟨z1,z2,hb⟩:=bY w [.string t.name,.bool t.enum,.slice P2 t.fields.length p2,.slice P3 t.gone.length p3,.slice P4 t.items.length p4] [.string t.name,.bool t.enum,.slice Q2 t.fields.length q2,.slice Q3 t.gone.length q3,.slice Q4 t.items.length q4] 70 70;clear ht ht' hF hF' hG hG' hI hI';go_enter func105,ntmps105;go_wp2_with fail;refine(Tryz.strings_Compare _ _ _).mono ?_;rintro e w1 ⟨rfl,rfl⟩;rw[Ck];have m3:=z1.cell 2;have n3:=z2.cell 2;have l1:=z1.lt;have l2:=z2.lt;simp only[List.getElem?_cons_zero,List.getElem?_cons_succ] at m3 n3;have HF2:=hidL (ahI S S' _ _ _ _ ((RSl.fair aH.fair).below HF.out hb) ((RSl.fair aH.fair).below HF'.out hb));have hbx:(t.enum==t.enum)=true:=by simp
 go_wp2_with fail;refine HF2.out.mono ?_;rintro e w2 ⟨rfl,hb2⟩;have hw2:=aa hb hb2 hb.size;have y1:=z1.below hb2 z1.lt;have y2:=z2.below hb2 z2.lt;have HG2:=hidL (aiA S S' _ _ _ _ ((RSl.fair aQ.fair).below HG.out hw2) ((RSl.fair aQ.fair).below HG'.out hw2));clear m3 n3 l1 l2 z1 z2 hb hb2 HF HF' HF2;have m3:=y1.cell 3;have n3:=y2.cell 3;have l1:=y1.lt;have l2:=y2.lt;simp only[List.getElem?_cons_zero,List.getElem?_cons_succ] at m3 n3;go_wp2_with fail;refine HG2.out.mono ?_;rintro e w3 ⟨rfl,hb3⟩;have hw3:=aa hw2 hb3 hw2.size;have x1:=y1.below hb3 y1.lt;have x2:=y2.below hb3 y2.lt;have HI2:=hidL (ajP S S' _ _ _ _ ((RSl.fair aO.fair).below HI.out hw3) ((RSl.fair aO.fair).below HI'.out hw3));clear m3 n3 l1 l2 y1 y2 hw2 hb3 HG HG' HG2;have m3:=x1.cell 4;have n3:=x2.cell 4;have l1:=x1.lt;have l2:=x2.lt;simp only[List.getElem?_cons_zero,List.getElem?_cons_succ] at m3 n3;go_wp2_with fail;refine HI2.out.mono ?_;rintro e w4 ⟨rfl,hb4⟩;have hw4:=aa hw3 hb4 hw3.size;clear m3 n3 l1 l2 x1 x2 hb4 HI HI' HI2;go_wp2_with fail;go_ret;exact⟨rfl,hw4⟩
theorem adK (S S':Nat→Prop)(v v':Value)(b:av)(w:World)(h1:RSl 5 96 ah S w [v] b)(h2:RSl 5 96 ah S' w [v'] b):Calls prog 104 #[v,v',.func (.func 105) #[] #[]] w (Ret w (.bool true)):=by
 obtain⟨A,d1,rfl,hlc,hlb⟩:=h1.form;obtain⟨A',d2,rfl,hlc',hlb'⟩:=h2.form;have HL:=hidL h1;have HL':=hidL h2;clear h1 h2;go_enter func104,ntmps104;go_wp2_with fail;go_loopw [17] (fun i wr=>∃ k:Nat,i=.int .i64 k∧k≤b.length∧Below w.heap.size w wr) (fun i _=>b.length-(intOf i).toNat)
 case atStart=>exact⟨0,rfl,by omega,Below.refl _ _⟩
 case round =>
  obtain⟨k,rfl,hk,hb⟩:=hrel
  by_cases hlt:k<b.length
  ·obtain⟨lg,lo,rfl,hSl,hgl⟩:=HL.out.base (by omega);obtain⟨mg,mo,rfl,hSm,hgm⟩:=HL'.out.base (by omega);obtain⟨es,_,hrx,hlx⟩:=HL.out.lies hlt;obtain⟨fs,_,hry,hly⟩:=HL'.out.lies hlt;obtain⟨t,ht⟩:=exE (b[k]);rw[←ht] at hrx hry;obtain⟨P2,p2,P3,p3,P4,p4,rfl,-,-,-⟩:=hrx.parts;obtain⟨Q2,q2,Q3,q3,Q4,q4,rfl,-,-,-⟩:=hry.parts;have hc:=hlx.keep (az.of_below hb) hSl;have hd:=hly.keep (az.of_below hb) hSm;have HRx:=hidL hrx;have HRy:=hidL hry;have a0:wr.cell? ⟨lg,lo+k*5,none⟩=some (.string t.name):=hc.at_ 0 rfl;have a1:wr.cell? ⟨lg,lo+k*5+1,none⟩=some (.bool t.enum):=hc.at_ 1 rfl;have a2:wr.cell? ⟨lg,lo+k*5+2,none⟩=some (.slice P2 t.fields.length p2):=hc.at_ 2 rfl;have a3:wr.cell? ⟨lg,lo+k*5+3,none⟩=some (.slice P3 t.gone.length p3):=hc.at_ 3 rfl;have a4:wr.cell? ⟨lg,lo+k*5+4,none⟩=some (.slice P4 t.items.length p4):=hc.at_ 4 rfl;have b0:wr.cell? ⟨mg,mo+k*5,none⟩=some (.string t.name):=hd.at_ 0 rfl;have b1:wr.cell? ⟨mg,mo+k*5+1,none⟩=some (.bool t.enum):=hd.at_ 1 rfl;have b2:wr.cell? ⟨mg,mo+k*5+2,none⟩=some (.slice Q2 t.fields.length q2):=hd.at_ 2 rfl;have b3:wr.cell? ⟨mg,mo+k*5+3,none⟩=some (.slice Q3 t.gone.length q3):=hd.at_ 3 rfl;have b4:wr.cell? ⟨mg,mo+k*5+4,none⟩=some (.slice Q4 t.items.length q4):=hd.at_ 4 rfl;have hlg:lg<wr.heap.size:=Nat.lt_of_lt_of_le hgl hb.size;have hmg:mg<wr.heap.size:=Nat.lt_of_lt_of_le hgm hb.size;clear hrx hry hlx hly ht hc hd;go_wp2_with fail;have hw2:=(hb.alloc hb.size (.cells #[.string t.name,.bool t.enum,.slice P2 t.fields.length p2,.slice P3 t.gone.length p3,.slice P4 t.items.length p4] 70));have hw3:=hw2.alloc hw2.size (.cells #[.string t.name,.bool t.enum,.slice Q2 t.fields.length q2,.slice Q3 t.gone.length q3,.slice Q4 t.items.length q4] 70);refine(agw S S' _ _ t _ (ah.fair.below HRx.out hw3) (ah.fair.below HRy.out hw3)).mono ?_;rintro e w4 ⟨rfl,hb4⟩;have hw4:=aa hw3 hb4 hw3.size;clear a0 a1 a2 a3 a4 b0 b1 b2 b3 b4 hlg hmg;go_wp2_with fail;go_roundw
   case rel=>exact⟨k+1,by go_num,by omega,hw4⟩
   case measure=>simp[intOf];omega
  ·go_wp2_with fail;go_ret;exact⟨rfl,hb⟩
theorem Hu (S S':Nat→Prop)(v v':Value)(b:av)(w:World)(h1:RSl 5 96 ah S w [v] b)(h2:RSl 5 96 ah S' w [v'] b):Calls prog 63 #[.agg #[v],.agg #[v']] w (Ret w (.bool true)):=by
 have H1:=hidL h1;have H2:=hidL h2;obtain⟨z1,z2,hb⟩:=bY w [v] [v'] 48 48;have l1:=z1.lt;have l2:=z2.lt;have m1:=z1.cell 0;have m2:=z2.cell 0;simp only[List.getElem?_cons_zero] at m1 m2;clear h1 h2;go_enter func63,ntmps63;go_wp2_with fail;refine(adK S S' _ _ b _ ((RSl.fair ah.fair).below H1.out hb) ((RSl.fair ah.fair).below H2.out hb)).mono ?_;rintro e w1 ⟨rfl,hb1⟩;have hw1:=aa hb hb1 hb.size;clear m1 m2 l1 l2 z1 z2;go_wp2_with fail;go_ret;exact⟨rfl,hw1⟩
end Go.Proofs.YthhldfpmhmocfaaGreatDoor
