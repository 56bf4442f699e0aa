/- Walks and plain laws. -/
import Derived.Test.YtknnhpkjgnkcdaaGreatDoorMwalks
set_option linter.all false
set_option maxRecDepth 100000
set_option maxHeartbeats 8000000
namespace Go.Proofs.YtknnhpkjgnkcdaaGreatDoor
open Go.Proofs.Tryz
open Go.RowKit
theorem xK:prog.eqGuardType prog.depth 57=false:=by kernel_rfl
theorem yQ:prog.underlying 57=some (.struct (prog.fieldsOf 57)):=by kernel_rfl
theorem Fa:prog.stoodInHeld 57=false:=by kernel_rfl
theorem uO (p:ay)(W:World):(binOp .neq 55 (.agg (FF p.id p.name p.type p.kind p.rule).toArray) (.agg (FF p.id p.name p.type p.kind p.rule).toArray)).run prog W=.ok (.bool false) W:=by
 rw[run_neq_struct,run_equalIn_agg (P:=prog) W 9999 55 _ _ oI rR];simp[go_sem]
theorem wJ (p:dC)(W:World):(binOp .neq 57 (.agg #[.string p.name,O p.n]) (.agg #[.string p.name,O p.n])).run prog W=.ok (.bool false) W:=by
 rw[run_neq_struct,run_equalIn_agg (P:=prog) W 9999 57 _ _ yQ Fa];simp[go_sem]
theorem ahI (S S':Nat→Prop)(v v':Value)(l:List ay)(w:World)(hl:RSl 5 56 aH S w [v] l)(hl':RSl 5 56 aH S' w [v'] l):Calls prog 78 #[v,v'] w (Ret w (.bool true)):=by
 obtain⟨A,cap,rfl,hlc,hlb⟩:=hl.form;obtain⟨A',cap',rfl,hlc',hlb'⟩:=hl'.form;have HL:=hidL hl;have HL':=hidL hl';clear hl hl';go_enter func78,ntmps78;go_wp2_with fail;go_loopw [13] (fun i wr=>∃ k:Nat,i=O k∧k≤l.length∧Below w.heap.size w wr) (fun i _=>l.length-(intOf i).toNat)
 case atStart=>exact⟨0,rfl,by omega,Below.refl _ _⟩
 case round =>
  obtain⟨k,rfl,hk,hb⟩:=hrel
  by_cases hlt:k<l.length
  ·obtain⟨g,o,es,rfl,hS,hg,hes,hr,hc⟩:=((RSl.fair aH.fair).below HL.out hb).at_ hlt;obtain⟨g',o',es',rfl,hS',hg',hes',hr',hc'⟩:=((RSl.fair aH.fair).below HL'.out hb).at_ hlt;obtain⟨p,hpe⟩:=exE (l[k]);rw[←hpe] at hr hr';clear hpe;have e1:es=aI p:=hr;have e2:es'=aI p:=hr';subst e1 e2;have c0:=hc.a0 rfl;have d0:=hc'.a0 rfl;have c1:=hc.at_ 1 rfl;have d1:=hc'.at_ 1 rfl;have c2:=hc.at_ 2 rfl;have d2:=hc'.at_ 2 rfl;have c3:=hc.at_ 3 rfl;have d3:=hc'.at_ 3 rfl;have c4:=hc.at_ 4 rfl;have d4:=hc'.at_ 4 rfl;have hgd:=sK;have hneq:=fun W=>uO p W
   clear hr hr' hc hc' hes hes' hg hg' hS hS';go_wp2_with fail
   go_quiet (fail)
   go_wp2;go_roundw
   case rel=>exact⟨k+1,by go_num,by omega,below_drewN hb _⟩
   case measure=>simp[intOf];omega
  ·go_wp2;go_ret;exact⟨rfl,hb⟩
theorem aiA (S S':Nat→Prop)(v v':Value)(l:List Int)(w:World)(hl:RSl 1 8 aQ S w [v] l)(hl':RSl 1 8 aQ S' w [v'] l):Calls prog 79 #[v,v'] w (Ret w (.bool true)):=by
 obtain⟨A,cap,rfl,hlc,hlb⟩:=hl.form;obtain⟨A',cap',rfl,hlc',hlb'⟩:=hl'.form;have HL:=hidL hl;have HL':=hidL hl';clear hl hl';go_enter func79,ntmps79;go_wp2_with fail;go_loopw [13] (fun i wr=>∃ k:Nat,i=O k∧k≤l.length∧Below w.heap.size w wr) (fun i _=>l.length-(intOf i).toNat)
 case atStart=>exact⟨0,rfl,by omega,Below.refl _ _⟩
 case round =>
  obtain⟨k,rfl,hk,hb⟩:=hrel
  by_cases hlt:k<l.length
  ·obtain⟨g,o,es,rfl,hS,hg,hes,hr,hc⟩:=((RSl.fair aQ.fair).below HL.out hb).at_ hlt;obtain⟨g',o',es',rfl,hS',hg',hes',hr',hc'⟩:=((RSl.fair aQ.fair).below HL'.out hb).at_ hlt;obtain⟨p,hpe⟩:=exE (l[k]);rw[←hpe] at hr hr';clear hpe;have e1:es=[O p]:=hr;have e2:es'=[O p]:=hr';subst e1 e2;have c0:LL wr g (o+k) (O p):=by have:=hc.at_ 0 rfl;simpa using this
   have d0:LL wr g' (o'+k) (O p):=by have:=hc'.at_ 0 rfl;simpa using this
   clear hr hr' hc hc' hes hes' hg hg' hS hS';go_wp2_with fail
   go_quiet (fail)
   go_wp2;go_roundw
   case rel=>exact⟨k+1,by go_num,by omega,below_drewN hb _⟩
   case measure=>simp[intOf];omega
  ·go_wp2;go_ret;exact⟨rfl,hb⟩
theorem ajP (S S':Nat→Prop)(v v':Value)(l:List dC)(w:World)(hl:RSl 2 24 aO S w [v] l)(hl':RSl 2 24 aO S' w [v'] l):Calls prog 80 #[v,v'] w (Ret w (.bool true)):=by
 obtain⟨A,cap,rfl,hlc,hlb⟩:=hl.form;obtain⟨A',cap',rfl,hlc',hlb'⟩:=hl'.form;have HL:=hidL hl;have HL':=hidL hl';clear hl hl';go_enter func80,ntmps80;go_wp2_with fail;go_loopw [13] (fun i wr=>∃ k:Nat,i=O k∧k≤l.length∧Below w.heap.size w wr) (fun i _=>l.length-(intOf i).toNat)
 case atStart=>exact⟨0,rfl,by omega,Below.refl _ _⟩
 case round =>
  obtain⟨k,rfl,hk,hb⟩:=hrel
  by_cases hlt:k<l.length
  ·obtain⟨g,o,es,rfl,hS,hg,hes,hr,hc⟩:=((RSl.fair aO.fair).below HL.out hb).at_ hlt;obtain⟨g',o',es',rfl,hS',hg',hes',hr',hc'⟩:=((RSl.fair aO.fair).below HL'.out hb).at_ hlt;obtain⟨p,hpe⟩:=exE (l[k]);rw[←hpe] at hr hr';clear hpe;have e1:es=dD p:=hr;have e2:es'=dD p:=hr';subst e1 e2;have c0:=hc.a0 rfl;have d0:=hc'.a0 rfl;have c1:=hc.at_ 1 rfl;have d1:=hc'.at_ 1 rfl;have hgd:=xK;have hneq:=fun W=>wJ p W
   clear hr hr' hc hc' hes hes' hg hg' hS hS';go_wp2_with fail
   go_quiet (fail)
   go_wp2;go_roundw
   case rel=>exact⟨k+1,by go_num,by omega,below_drewN hb _⟩
   case measure=>simp[intOf];omega
  ·go_wp2;go_ret;exact⟨rfl,hb⟩
theorem Ck:∀ (l:List UInt8),Lib.compareBytes l l=0
 | []=>by simp[Lib.compareBytes]
 | a::l=>by
  unfold Lib.compareBytes;have h:¬ a<a:=UInt8.lt_irrefl a;rw[if_neg h,if_neg h];exact Ck l
theorem agw (S S':Nat→Prop)(cs cs':List Value)(t:ax)(w:World)(ht:ah S w cs t)(ht':ah S' w cs' t):Calls prog 77 #[.agg cs.toArray,.agg cs'.toArray] w (Ret w (.bool true)):=by
 obtain⟨P2,p2,P3,p3,P4,p4,rfl,hF,hG,hI⟩:=ht.parts;obtain⟨Q2,q2,Q3,q3,Q4,q4,rfl,hF',hG',hI'⟩:=ht'.parts;have HF:=hidL hF;have HF':=hidL hF';have HG:=hidL hG;have HG':=hidL hG';have HI:=hidL hI;have HI':=hidL hI';obtain⟨z1,z2,hb⟩:=bY w (TT t P2 p2 P3 p3 P4 p4) (TT t Q2 q2 Q3 q3 Q4 q4) 53 53;clear ht ht' hF hF' hG hG' hI hI';go_enter func77,ntmps77;go_wp2_with fail;refine(Tryz.strings_Compare _ _ _).mono ?_;rintro e w1 ⟨rfl,rfl⟩;rw[Ck];have m3:=z1.c 2 rfl;have n3:=z2.c 2 rfl;have l1:=z1.lt;have l2:=z2.lt;have HF2:=hidL (ahI S S' _ _ _ _ ((RSl.fair aH.fair).below HF.out hb) ((RSl.fair aH.fair).below HF'.out hb));have hbx:(t.enum==t.enum)=true:=by simp
 go_wp2_with fail;refine HF2.out.mono ?_;rintro e w2 ⟨rfl,hb2⟩;have hw2:=aa hb hb2 hb.size;have y1:=z1.below hb2 z1.lt;have y2:=z2.below hb2 z2.lt;have HG2:=hidL (aiA S S' _ _ _ _ ((RSl.fair aQ.fair).below HG.out hw2) ((RSl.fair aQ.fair).below HG'.out hw2));clear m3 n3 l1 l2 z1 z2 hb hb2 HF HF' HF2;have m3:=y1.c 3 rfl;have n3:=y2.c 3 rfl;have l1:=y1.lt;have l2:=y2.lt;go_wp2_with fail;refine HG2.out.mono ?_;rintro e w3 ⟨rfl,hb3⟩;have hw3:=aa hw2 hb3 hw2.size;have x1:=y1.below hb3 y1.lt;have x2:=y2.below hb3 y2.lt;have HI2:=hidL (ajP S S' _ _ _ _ ((RSl.fair aO.fair).below HI.out hw3) ((RSl.fair aO.fair).below HI'.out hw3));clear m3 n3 l1 l2 y1 y2 hw2 hb3 HG HG' HG2;have m3:=x1.c 4 rfl;have n3:=x2.c 4 rfl;have l1:=x1.lt;have l2:=x2.lt;go_wp2_with fail;refine HI2.out.mono ?_;rintro e w4 ⟨rfl,hb4⟩;have hw4:=aa hw3 hb4 hw3.size;clear m3 n3 l1 l2 x1 x2 hb4 HI HI' HI2;go_wp2;go_ret;exact⟨rfl,hw4⟩
theorem adK (S S':Nat→Prop)(v v':Value)(b:av)(w:World)(h1:RSl 5 96 ah S w [v] b)(h2:RSl 5 96 ah S' w [v'] b):Calls prog 76 #[v,v',.func (.func 77) #[] #[]] w (Ret w (.bool true)):=by
 obtain⟨A,d1,rfl,hlc,hlb⟩:=h1.form;obtain⟨A',d2,rfl,hlc',hlb'⟩:=h2.form;have HL:=hidL h1;have HL':=hidL h2;clear h1 h2;go_enter func76,ntmps76;go_wp2_with fail;go_loopw [17] (fun i wr=>∃ k:Nat,i=O k∧k≤b.length∧Below w.heap.size w wr) (fun i _=>b.length-(intOf i).toNat)
 case atStart=>exact⟨0,rfl,by omega,Below.refl _ _⟩
 case round =>
  obtain⟨k,rfl,hk,hb⟩:=hrel
  by_cases hlt:k<b.length
  ·obtain⟨lg,lo,rfl,hSl,hgl⟩:=HL.out.base (by omega);obtain⟨mg,mo,rfl,hSm,hgm⟩:=HL'.out.base (by omega);obtain⟨es,_,hrx,hlx⟩:=HL.out.lies hlt;obtain⟨fs,_,hry,hly⟩:=HL'.out.lies hlt;obtain⟨t,ht⟩:=exE (b[k]);rw[←ht] at hrx hry;obtain⟨P2,p2,P3,p3,P4,p4,rfl,-,-,-⟩:=hrx.parts;obtain⟨Q2,q2,Q3,q3,Q4,q4,rfl,-,-,-⟩:=hry.parts;have hc:=hlx.keep (az.of_below hb) hSl;have hd:=hly.keep (az.of_below hb) hSm;have HRx:=hidL hrx;have HRy:=hidL hry;have a0:=hc.a0 rfl;have a1:=hc.at_ 1 rfl;have a2:=hc.at_ 2 rfl;have a3:=hc.at_ 3 rfl;have a4:=hc.at_ 4 rfl;have b0:=hd.a0 rfl;have b1:=hd.at_ 1 rfl;have b2:=hd.at_ 2 rfl;have b3:=hd.at_ 3 rfl;have b4:=hd.at_ 4 rfl;have hlg:lg<wr.heap.size:=Nat.lt_of_lt_of_le hgl hb.size;have hmg:mg<wr.heap.size:=Nat.lt_of_lt_of_le hgm hb.size;clear hrx hry hlx hly ht hc hd;go_wp2_with fail;have hw2:=(hb.alloc hb.size (.cells (TT t P2 p2 P3 p3 P4 p4).toArray 53));have hw3:=hw2.alloc hw2.size (.cells (TT t Q2 q2 Q3 q3 Q4 q4).toArray 53);refine(agw S S' _ _ t _ (ah.fair.below HRx.out hw3) (ah.fair.below HRy.out hw3)).mono ?_;rintro e w4 ⟨rfl,hb4⟩;have hw4:=aa hw3 hb4 hw3.size;clear a0 a1 a2 a3 a4 b0 b1 b2 b3 b4 hlg hmg;go_wp2;go_roundw
   case rel=>exact⟨k+1,by go_num,by omega,hw4⟩
   case measure=>simp[intOf];omega
  ·go_wp2;go_ret;exact⟨rfl,hb⟩
theorem Hu (S S':Nat→Prop)(v v':Value)(b:av)(w:World)(h1:RSl 5 96 ah S w [v] b)(h2:RSl 5 96 ah S' w [v'] b):Calls prog 38 #[.agg #[v],.agg #[v']] w (Ret w (.bool true)):=by
 have H1:=hidL h1;have H2:=hidL h2;obtain⟨z1,z2,hb⟩:=bY w [v] [v'] 38 38;have l1:=z1.lt;have l2:=z2.lt;have m1:=z1.c 0 rfl;have m2:=z2.c 0 rfl;clear h1 h2;go_enter func38,ntmps38;go_wp2_with fail;refine(adK S S' _ _ b _ ((RSl.fair ah.fair).below H1.out hb) ((RSl.fair ah.fair).below H2.out hb)).mono ?_;rintro e w1 ⟨rfl,hb1⟩;have hw1:=aa hb hb1 hb.size;clear m1 m2 l1 l2 z1 z2;go_wp2;go_ret;exact⟨rfl,hw1⟩
end Go.Proofs.YtknnhpkjgnkcdaaGreatDoor
