/- The walk of the statement TopShows: what is shown is read as the book that was committed. -/
import Derived.Test.YtknnhpkjgnkcdaaGreatDoorTopQuiet
import Derived.Test.YtknnhpkjgnkcdaaGreatDoorTopSame
import Derived.Test.YtknnhpkjgnkcdaaGreatDoorParseShow
set_option linter.all false
set_option maxRecDepth 100000
set_option maxHeartbeats 8000000
namespace Go.Proofs.YtknnhpkjgnkcdaaGreatDoor
open Go.Proofs.Tryz
open Go.RowKit
def anA (n:Int):mG:=⟨7,n,0,⟨#[]⟩,⟨#[]⟩,⟨#[]⟩⟩
theorem anW {s:cK}(h:s.acts<200)(n:Int):(doF s (anA n)).1=Nh s (anA n):=by
 unfold doF;rw[if_neg (by omega),amf rfl];rfl
theorem anV {s:cK}{n:Int}(h:¬ (0≤n∧n<s.cs.length)):Nh s (anA n)=dY 3:=by
 unfold Nh;rw[if_pos (show isC s (anA n).n=false from decide_eq_false h)]
theorem anX {s:cK}{k:Nat}(hs:gY s)(h:k<s.cs.length):∃ m,Nh s (anA k)=⟨0,m,⟨((s.cs[k].book).flatMap bV).toArray⟩,[]⟩:=by
 have hb:ib s.cs (k:Int)=s.cs[k].book:=by simp[ib,h]
 have hg:=hs.books _ (List.getElem_mem h);have h1:isC s (anA k).n=true:=by simp[isC,anA];omega
 refine⟨(kG s.cs (anA k).n.toNat).length,?_⟩;unfold Nh;rw[if_neg (by rw[h1];decide),show ib s.cs (anA k).n=s.cs[k].book from hb,yS hg,if_neg (by simp)]
theorem anL (S:Nat→Prop)(v:Value)(l:List mG)(n:Int)(w:World)(hl:RSl 6 72 Tn S w [v] l)(hfit:∀ a∈l,IM a)(hG:qW w.heap.size w):Calls prog 3 #[v,O n] w (Ret w (.bool true)):=by
 obtain⟨A,cap,rfl,-,-⟩:=hl.form;obtain⟨hok,-,hac⟩:=anI l;have HP:=hidL (anB hl hfit hG);have HG:=hidL hG;have HO:=hidL hok;have hmo:=hok.most;have HSH:=hidL (anW (s:=aeF l) (by omega) n);clear hl hfit hG hac hok;go_enter func3,ntmps3;go_wp2_with fail;refine HP.out.mono ?_;rintro e w2 ⟨g,row,S1,rfl,hr,-,hb2⟩;have HC:=hidL (yM hr (by omega));have HR:=hidL hr;have HGL:=hidL (show ¬ New w2 g by have:=hr.gLt;show ¬ (w2.heap.size≤g);omega);have HRW:=hidL (show ∀ y,row=some y→¬ New w2 y from fun y e h=>by subst e;have:=hr.GM.2;have h:w2.heap.size≤y:=h;omega);clear hr HP;go_wp2_with fail;refine HC.out.mono ?_;rintro e w3 ⟨vc,rfl,hv,hb3⟩;obtain⟨AC,kC,rfl,-,-⟩:=hv.form;have hb13:=aa hb2 hb3 hb2.size;have HD:=hidL (WL (anA n) (HR.out.below hb3) HO.out (Nat.zero_le 140737488351232) (Nat.zero_le 140737488351232) hb13.size (HG.out.below hb13));have HV:=hidL hv;have HRB:=hidL (HR.out.below hb3);dsimp only[anA,fQ] at HD;clear hv hb2 hb3 HC HR;go_wp2_with fail;refine HD.out.mono ?_;obtain⟨r,hr⟩:=exE (doF (aeF l) (anA n));rw[←hr] at HSH;rw[show doF (aeF l) ⟨7,n,0,⟨#[]⟩,⟨#[]⟩,⟨#[]⟩⟩=r from hr.symm];clear HD hr;obtain⟨⟨rc,rn,rt,rf⟩,s2⟩:=r;rintro e w4 ⟨cs,S5,row5,rfl,⟨vf,rfl,hrf⟩,-,-,-,hT⟩;obtain⟨AF,kF,rfl,-,-⟩:=hrf.form;have hb4:=HRB.out.KE hT hb13.size;have hb14:=hb13.trans hb4;have hv4:=(RSl.fair dw.fair).keep HV.out (hT.keep HGL.out HRW.out);clear hT HRB HGL HRW HV hb4;go_upto_region 6 with fail;have z:=Box.new w4 32 [O rc,O rn,.string rt,.slice AF rf.length kF];have hbx:=(Below.here w4).alloc (Nat.le_refl _) (.cells [O rc,O rn,.string rt,.slice AF rf.length kF].toArray 32);have HV5:=hidL ((RSl.fair dw.fair).below hv4 hbx);have hb15:=aa hb14 hbx hb14.size;clear hv4 hbx hb14 hb13;generalize w4.heap.size=X at z ⊢;generalize World.alloc w4 _=W5 at z hb15 HV5 ⊢;have z0:=z.c 0 rfl;have z2:=z.c 2 rfl;have zl:=z.lt
 by_cases hin:0≤n∧n<(aeF l).cs.length
 ·obtain⟨k,rfl⟩:∃ k:Nat,n=k:=⟨n.toNat,by omega⟩;have hk:k<(aeF l).cs.length:=by omega
  obtain⟨m,hm⟩:=anX HO.out hk;have hsh:=HSH.out;rw[hm] at hsh;obtain⟨bk,hbk⟩:=exE ((aeF l).cs[k].book);rw[←hbk] at hsh;have hgd:aB bk=0:=hbk ▸ HO.out.books _ (List.getElem_mem hk);obtain⟨rfl,rfl,rfl,rfl⟩:rc=0∧rn=m∧rt=⟨(bk.flatMap bV).toArray⟩∧rf=[]:=by simpa using hsh
  have hpl:=Ap hgd;obtain⟨tt,htt⟩:=exE (⟨(bk.flatMap bV).toArray⟩:ByteArray);have htz:tt.size≤1600:=by rw[htt];simpa[ByteArray.size] using hpl
  have htp:iZ (bytes tt)=(bk,0):=by rw[htt];exact MH hgd
  rw[←htt] at z2 z ⊢;have HPA:=hidL (wS tt W5 (by omega) (HG.out W5 hb15).1 (HG.out W5 hb15).2.1 (HG.out W5 hb15).2.2);rw[htp] at HPA;have Z:=hidL z;have d1:decide ((k:Int)<0)=false:=decide_eq_false (by omega);have d2:decide ((k:Int)≥((aeF l).cs.length:Int))=false:=by simp;omega
  have d3:decide (((aeF l).cs.length:Int)≤(k:Int))=false:=by simp;omega
  obtain⟨gc,oc,es,hAC,hSc,hgc,hes,hrx,hlx⟩:=HV5.out.at_ hk;subst hAC;obtain⟨vb,vp,rfl,hBk,-⟩:=hrx;rw[←hbk] at hBk;obtain⟨B1,b1,rfl,-,-⟩:=hBk.form;have hcl:=hlx.at_ 0 rfl;have HB:=hidL hBk;have HCL:=hidL (show LL W5 gc (oc+k*2) (.slice B1 bk.length b1) from hcl);have hki:(k:Int)<(aeF l).cs.length:=by omega
  have HGC:=hidL hgc;clear hm hsh hbk hgd hpl htt htz htp z hin hSc hes hlx hBk hcl hgc HSH;go_wp2_with fail;refine HPA.out.mono ?_;rintro e w6 ⟨v6,rfl,hr6,hb6⟩;obtain⟨AV,cV,rfl,-,-⟩:=hr6.form;have hb16:=aa hb15 hb6 hb15.size;dsimp only at hr6;have x4:=Box.new w6 38 [.slice AV bk.length cV];have hA:=(Below.here w6).alloc (Nat.le_refl _) (.cells [.slice AV bk.length cV].toArray 38);have hb17:=aa hb16 hA hb16.size;have hb57:=aa hb6 hA hb6.size;have HB1:=hidL ((RSl.fair ah.fair).below hr6 hA);have HB2:=hidL ((RSl.fair ah.fair).below HB.out hb57);have c1:=(hb57.cell (p:=⟨gc,oc+k*2,none⟩) HGC.out).trans HCL.out;have c2:=(Z.out.below hb57 Z.out.lt).c 0 rfl;clear hr6 hA hb6 hb15 hb16 HB HCL Z HPA hb57 z0 z2 zl;go_upto_region 9 with fail;generalize w6.heap.size=Y at x4 ⊢;generalize World.alloc w6 _=W7 at x4 hb17 HB1 HB2 c1 c2 ⊢;have hw:=au (Below.refl W7.heap.size W7);have hS:(fun W'=>LL W' X 0 (O 0)∧LL W' Y 0 (.slice AV bk.length cV)∧LL W' gc (oc+k*2) (.slice B1 bk.length b1)) W7.drew:=⟨c2,x4.cell 0,c1⟩;have HBB:=hidL (afE _ _ _ _ bk W7.drew ((RSl.fair ah.fair).below HB1.out hw) ((RSl.fair ah.fair).below HB2.out hw));have hb18:=au hb17;refine aJ (fun W'=>LL W' X 0 (O 0)∧LL W' Y 0 (.slice AV bk.length cV)∧LL W' gc (oc+k*2) (.slice B1 bk.length b1)) (fun i=>i != 14) (by kernel_rfl) ?_;clear c1 c2 x4 HB1 HB2 hw hb17;generalize W7.drew=V at hS HBB hb18 ⊢;apply ppP 0;apply tkP 1 hS;apply ppP 2;apply ppP 3;apply ppP 4;apply ppP 5;apply ppP 6;apply ppP 7;apply tkP 8 hS;apply ppP 9;apply ppP 10;apply ppP 11;apply ppP 12;apply tkP 13 hS
  try simp only[pu]
  refine ang 14 (fun K hK=>?_);go_simp;refine HBB.out.mono ?_;rintro e w8 ⟨rfl,hb8⟩;have hb9:=aa hb18 hb8 hb18.size;refine hK.out _ _ nay ?_
  try simp only[pu]
  apply ppP 15;apply ppP 16
  try simp only[pu]
  refine anf ?_ _;clear hS HBB hb8 hb18;go_wp2;go_ret;exact⟨rfl,hb9⟩
 ·have hsh:=HSH.out;rw[anV hin] at hsh;obtain⟨rfl,rfl,rfl,rfl⟩:rc=3∧rn=0∧rt=⟨#[]⟩∧rf=[]:=by simpa[dY] using hsh
  clear hsh HSH
  by_cases h0:n<0
  ·have d1:decide (n<0)=true:=by simpa using h0
   clear hin h0;go_wp2;go_ret;exact⟨rfl,hb15⟩
  ·have d1:decide (n<0)=false:=by simpa using h0
   have d2:decide (n≥((aeF l).cs.length:Int))=true:=by simp;omega
   have d3:decide (((aeF l).cs.length:Int)≤n)=true:=by simp;omega
   clear hin h0;go_wp2;go_ret;exact⟨rfl,hb15⟩
end Go.Proofs.YtknnhpkjgnkcdaaGreatDoor
