/- Walks and plain laws. -/
import Derived.Test.YtknnhpkjgnkcdaaGreatDoorRepod
import Derived.ProofKit
import Derived.Deep.Fields
import Derived.Test.YtknnhpkjgnkcdaaGreatDoorRows
import Derived.LaidMore
set_option linter.all false
set_option maxRecDepth 100000
set_option maxHeartbeats 8000000
namespace Go.Proofs.YtknnhpkjgnkcdaaGreatDoor
section
open Go.RowKit
section
variable {S:Nat→Prop}{row:Option Nat}{base g x:Nat}{w w':World}{s:cK}{r:kR × cK}{e:Ending}{t:TypeId}{cs:List Value}
theorem qW.more {B:Nat}(h:qW base w)(hb:base≤B):qW B w:=fun W k=>h W (k.mono hb)
theorem eD.eZ (h:eD S row base g w r e w'):∃ S' row',bS S' row' base w' g r.2∧Touch row g w w'∧(∀ y,S' y→S y∨w.heap.size≤y)∧(row'=row∨∀ k,row'=some k→w.heap.size≤k):=by
 obtain⟨cs,S',row',rfl,hf,h1,h2,h3,h4⟩:=h;exact⟨S',row',h1,h4,h2,h3⟩
theorem Box.touch (h:Box w x t cs)(ht:Touch row g w w')(h1:x≠g)(h2:row≠some x):Box w' x t cs:=(ht.block x h.lt h1 h2).trans h
theorem bS.alq (h:bS S row base w g s)(hx:w.heap.size≤x):row≠some x:=fun e=>by subst e;have:=h.GM.2;omega
theorem bS.gLt (h:bS S row base w g s):g<w.heap.size:=by obtain⟨_,_,_,h2,_⟩:=h;exact h2.lt
end
theorem QI:Iu.name.size≤140737488351232∧Iu.text.size≤140737488351232:=⟨Nat.le_trans (Nat.le_of_eq (show _=1 by kernel_rfl)) (by decide),Nat.le_trans (Nat.le_of_eq (show _=23 by kernel_rfl)) (by decide)⟩
theorem QS:LZ.name.size≤140737488351232∧LZ.text.size≤140737488351232:=⟨Nat.le_trans (Nat.le_of_eq (show _=1 by kernel_rfl)) (by decide),Nat.le_trans (Nat.le_of_eq (show _=0 by kernel_rfl)) (by decide)⟩
theorem Pj:Sz.name.size≤140737488351232∧Sz.text.size≤140737488351232:=⟨Nat.le_trans (Nat.le_of_eq (show _=1 by kernel_rfl)) (by decide),Nat.le_trans (Nat.le_of_eq (show _=24 by kernel_rfl)) (by decide)⟩
theorem aha (w:World)(hG:qW w.heap.size w):Calls Tryz.prog 19 #[] w (Ret w (.bool true)):=by
 obtain⟨B,hB⟩:=exE w.heap.size;rw[←hB] at hG;have H0:=hidL (aeu B w (Nat.le_of_eq hB));have HG:=hidL hG;have HB:=hidL hB;clear hG hB;go_enter Tryz.func19,Tryz.ntmps19;go_wp2_with fail;refine H0.out.mono ?_;rintro e w1 ⟨rfl,hN1,hb1⟩;replace hb1:=hb1.mono (Nat.le_of_eq HB.out);have hs1:=Nat.le_trans (Nat.le_of_eq HB.out) hb1.size;have HA:=WL Iu hN1 gY.new QI.1 QI.2 hs1 (HG.out.below hb1);rw[Xj] at HA;dsimp only[fQ,Iu,ajq] at HA;clear H0;go_wp2_with fail;refine HA.mono ?_;intro e w2 hp;obtain⟨A2,c2,he⟩:=hp.form;change e=.returned (.agg #[O 0,O 0,E0,.slice A2 0 c2]) at he;subst he;obtain⟨S2,row2,hN2,hT2,-,-⟩:=hp.eZ;change bS S2 row2 B w2 w.heap.size (Ei 0 1) at hN2;have hb2:=hb1.trans (hN1.KE hT2 hs1);have hs2:=Nat.le_trans hs1 hT2.size;have hg2:=hN2.gLt;clear hp HA hN1 hT2;go_upto_region 5 with fail;have z2:=Box.new w2 32 [O 0,O 0,E0,.slice A2 0 c2];have hbx2:=(Below.here w2).alloc (Nat.le_refl _) (.cells [O 0,O 0,E0,.slice A2 0 c2].toArray 32);have hr2:=hN2.alq (Nat.le_refl _);replace hN2:=hN2.below hbx2;replace hb2:=hb2.alloc hs2 (.cells [O 0,O 0,E0,.slice A2 0 c2].toArray 32);replace hs2:=Nat.le_trans hs2 hbx2.size;clear hbx2;obtain⟨X2,hX2⟩:=exE w2.heap.size;rw[←hX2] at z2 hr2 hg2 ⊢;generalize World.alloc w2 _=W2 at z2 hN2 hb2 hs2 ⊢;clear hX2 hb1;have HBd:=WL LZ hN2 ?okB QS.1 QS.2 hs2 (HG.out.below hb2)
 case okB=>have:=(Uw (a:=Iu) gY.new iL.new).1;rwa [Xj] at this
 rw[aeD] at HBd;dsimp only[fQ,LZ] at HBd;go_wp2_with fail;refine HBd.mono ?_;intro e w3 hp;obtain⟨A3,c3,he⟩:=hp.form;change e=.returned (.agg #[O 0,O 0,E0,.slice A3 0 c3]) at he;subst he;obtain⟨S3,row3,hN3,hT3,-,hq3⟩:=hp.eZ;change bS S3 row3 B w3 w.heap.size (Ei 3 2) at hN3;have hb3:=hb2.trans (hN2.KE hT3 hs2);have hs3:=Nat.le_trans hs2 hT3.size;have z23:=z2.touch hT3 (by omega) hr2;have hr23:row3≠some X2:=by
  rcases hq3 with e | h
  ·rw[e];exact hr2
  ·intro e;have:=h _ e;have:=z2.lt;omega
 have hx3:X2<w3.heap.size:=Nat.lt_of_lt_of_le z2.lt hT3.size;clear hp HBd hN2 hT3 z2 hr2 hb2 hq3;go_upto_region 6 with fail;have z3:=Box.new w3 32 [O 0,O 0,E0,.slice A3 0 c3];have hbx3:=(Below.here w3).alloc (Nat.le_refl _) (.cells [O 0,O 0,E0,.slice A3 0 c3].toArray 32);have hr3:=hN3.alq (Nat.le_refl _);replace hN3:=hN3.below hbx3;replace hb3:=hb3.alloc hs3 (.cells [O 0,O 0,E0,.slice A3 0 c3].toArray 32);replace hs3:=Nat.le_trans hs3 hbx3.size;have z2:=z23.below hbx3 z23.lt;clear hbx3 z23;obtain⟨X3,hX3⟩:=exE w3.heap.size;rw[←hX3] at z3 hr3 hx3 ⊢;generalize World.alloc w3 _=W3 at z2 z3 hN3 hb3 hs3 ⊢;clear hX3;have HC:=WL Sz hN3 ?okC Pj.1 Pj.2 hs3 (HG.out.below hb3)
 case okC =>
  have h1:=Uw (a:=Iu) gY.new iL.new;rw[Xj] at h1;have h2:=(Uw (a:=LZ) h1.1 h1.2).1
  rwa [aeD] at h2
 rw[akJ] at HC;dsimp only[fQ,Sz,ajT] at HC;go_wp2_with fail;refine HC.mono ?_;intro e w4 hp;obtain⟨A4,c4,he⟩:=hp.form;change e=.returned (.agg #[O 8,O 0,E0,.slice A4 1 c4]) at he;subst he;obtain⟨S4,row4,hN4,hT4,-,-⟩:=hp.eZ;change bS S4 row4 B w4 w.heap.size (Ei 3 3) at hN4;have hb4:=hb3.trans (hN3.KE hT4 hs3);have hs4:=Nat.le_trans hs3 hT4.size;have z24:=z2.touch hT4 (by omega) hr23;have z34:=z3.touch hT4 (by omega) hr3;clear hp HC hN3 hT4 z2 z3 hr3 hr23 hb3;go_upto_region 7 with fail;have z4:=Box.new w4 32 [O 8,O 0,E0,.slice A4 1 c4];have hbx4:=(Below.here w4).alloc (Nat.le_refl _) (.cells [O 8,O 0,E0,.slice A4 1 c4].toArray 32);replace hN4:=hN4.below hbx4;replace hb4:=hb4.alloc hs4 (.cells [O 8,O 0,E0,.slice A4 1 c4].toArray 32);replace hs4:=Nat.le_trans hs4 hbx4.size;have z2:=z24.below hbx4 z24.lt;have z3:=z34.below hbx4 z34.lt;clear hbx4 z24 z34;generalize w4.heap.size=X4 at z4 ⊢;generalize World.alloc w4 _=W4 at z2 z3 z4 hN4 hb4 hs4 ⊢;have a0:=z2.c 0 rfl;have a1:=z3.c 0 rfl;have a2:=z4.c 0 rfl;have a3:=z4.c 3 rfl;have l2:=z2.lt;have l3:=z3.lt;have l4:=z4.lt;have HM:=hidL (yM hN4 (by decide));have HN:=hidL hN4;clear z2 z3 z4 hN4 hg2 hx3;go_wp2_with fail;refine HM.out.mono ?_;rintro e w5 ⟨v5,rfl,hv5,hb5⟩;obtain⟨A5,c5,hv,-,-⟩:=hv5.form;change v5=.slice A5 1 c5 at hv;subst hv;have HR:=hidL (Au (HN.out.below hb5) (by decide));have hb6:=aa hb4 hb5 hs4;have hs6:=Nat.le_trans hs4 hb5.size;clear hv5 hb5 hb4 HM;go_wp2_with fail;refine HR.out.mono ?_;rintro e w6 ⟨v6,rfl,hv6,hb7⟩;obtain⟨A6,c6,hv,-,-⟩:=hv6.form;change v6=.slice A6 1 c6 at hv;subst hv;have hb8:=aa hb6 hb7 hs6;rw[HB.out] at hb8;clear hv6 hb7 hb6;go_wp2;go_ret;exact⟨rfl,hb8⟩
end
section
open Go.RowKit
def Tn:Rel mG:=dS fQ
theorem Tn.fair:Fair Tn:=dS.fair _
def IM (a:mG):Prop:=a.name.size≤140737488351232∧a.other.size≤140737488351232∧a.text.size≤140737488351232
def Ic (l:List mG):cK:=l.foldl (fun s a=>(doF s a).2) .new
def aeF (l:List mG):cK:=Ic (l.take 40)
theorem ajF (l:List mG)(a:mG):Ic (l++[a])=(doF (Ic l) a).2:=by unfold Ic;rw[List.foldl_append];rfl
theorem aan {l:List mG}{k:Nat}(h:k<l.length):Ic (l.take (k+1))=(doF (Ic (l.take k)) l[k]).2:=by rw[List.take_succ_eq_append_getElem h,ajF]
theorem aet (l:List mG):∀ k,k≤l.length→k≤200→gY (Ic (l.take k))∧iL (Ic (l.take k))∧(Ic (l.take k)).acts=k
 | 0,_,_=>⟨gY.new,iL.new,rfl⟩
 | k+1,h,h2=>by
  obtain⟨h1,h3,h4⟩:=aet l k (by omega) (by omega);rw[aan (by omega)];have:=OU (a:=l[k]) h1 h3 (by omega);exact⟨this.ok,this.keep,by rw[this.acts];simp[h4]⟩
def aim (f:Nat)(caps:List Value)(base:Nat)(w0:World)(I:World→cK→Nat→Option Nat→(Nat→Prop)→Prop):Prop :=
 ∀ (s:cK) (a:mG) (g:Nat) (W W1:World) (row row':Option Nat) (S S':Nat→Prop) (cs:List Value),gY s→iL s→s.acts<200→IM a→Below w0.heap.size w0 W→I W s g row S→bS S row base W g s →
  Touch row g W W1→Below w0.heap.size w0 W1→bS S' row' base W1 g (doF s a).2→(∀ y,S' y→S y∨W.heap.size≤y)→(row'=row∨∀ k,row'=some k→W.heap.size≤k)→jd (fun y=>W.heap.size≤y∧row'≠some y) W1 cs (doF s a).1 →
  Calls Tryz.prog f (Value.pointer (some ⟨g,0,none⟩)::.agg (fQ a).toArray::.agg cs.toArray::caps).toArray W1 (fun e W2=>e=.returned (.bool true)∧Below w0.heap.size W1 W2∧bS S' row' base W2 g (doF s a).2∧I W2 (doF s a).2 g row' S')
def aip (I:World→cK→Nat→Option Nat→(Nat→Prop)→Prop)(l:List mG)(w0 w:World)(e:Ending)(w':World):Prop :=
 ∃ g row S,e=.returned (.tuple #[.pointer (some ⟨g,0,none⟩),.bool true])∧bS S row w.heap.size w' g (aeF l)∧I w' (aeF l) g row S∧Below w0.heap.size w w'
theorem SI {I:World→cK→Nat→Option Nat→(Nat→Prop)→Prop}(f:Nat)(caps:List Value)(hf:∀ args w,(callFunc f args).run Tryz.prog w=.ok (.enter f args) w)(A:Option Addr)(cap:Nat)(l:List mG)(T:Nat→Prop)(w0 w:World)(hl:RSl 6 72 Tn T w0 [.slice A l.length cap] l)(hfit:∀ a∈l,IM a)(h0:Below w0.heap.size w0 w)(hG:qW w0.heap.size w0)
  (hL:aim f caps w.heap.size w0 I) (hI:∀ W g,w.heap.size≤g→Below w.heap.size w W→bS NoT none w.heap.size W g .new→I W .new g none NoT) :
  Calls Tryz.prog 6 #[.slice A l.length cap,Value.func (.func f) #[] caps.toArray] w (aip I l w0 w):=by
 have HL:=hidL hl;have HG:=hidL hG;have HK:=hidL hL;have HI:=hidL hI;have HF:=hidL hfit;have H0:=hidL h0;have HA:=hidL (aha w ((hG.below h0).more h0.size));have hN:=fun W (h:Below w.heap.size w W)=>aeu w.heap.size W h.size
 have HN:=hidL hN;have hsz:=h0.size;have HE:=hidL hf;clear hl hG hL hI hfit h0 hN hf;go_enter Tryz.func6,Tryz.ntmps6;go_wp2_with fail;refine HA.out.mono ?_;rintro e w1 ⟨rfl,hb1⟩;go_wp2_with fail;refine(HN.out _ hb1).mono ?_;rintro e w2 ⟨rfl,hr2,hb2⟩;have hb3:=aa hb1 hb2 hb1.size;have hgg:=hb1.size;generalize w1.heap.size=g at hr2 hgg ⊢;have HI2:=hidL (HI.out w2 g hgg hb3 hr2);have HR2:=hidL hr2;clear hr2 hb2 hb1 HA HN HI;go_wp2_with fail;go_loopw [7] (fun i wr=>∃ (k:Nat) (row:Option Nat) (S:Nat→Prop),i=O k∧k≤l.length∧k≤40∧bS S row w.heap.size wr g (Ic (l.take k))∧I wr (Ic (l.take k)) g row S∧Below w0.heap.size w wr∧w.heap.size≤wr.heap.size) (fun i _=>l.length-(intOf i).toNat)
 case atStart=>exact⟨0,none,NoT,rfl,by omega,by omega,HR2.out,HI2.out,hb3.mono hsz,hb3.size⟩
 case round =>
  clear HR2 HI2 hb3;obtain⟨k,row,S,rfl,hk,hk4,hN,hI,hbw,hws⟩:=hrel;have hb:=H0.out.trans hbw
  by_cases h1:k<l.length
  ·have hi1:(k:Int)<l.length:=by omega
   by_cases h2:k<40
   ·have d2:decide ((k:Int)<40)=true:=by simp;omega
    obtain⟨gA,oA,rfl,hS,hgA⟩:=HL.out.base (by omega);have hc:=(HL.out.flat (enc:=fQ) h1).keep (az.of_below hb) hS;have hgl:gA<wr.heap.size:=Nat.lt_of_lt_of_le hgA hb.size;obtain⟨h3,h4,h5⟩:=aet l k hk (by omega);have HT:Hid (Ic (l.take (k+1))=(doF (Ic (l.take k)) l[k]).2):=aan h1;have hfa:=HF.out _ (List.getElem_mem h1);obtain⟨a,ha⟩:=exE (l[k]);rw[←ha] at hc HT hfa;obtain⟨s,hs⟩:=exE (Ic (l.take k));rw[←hs] at h3 h4 h5 hN hI HT;have hsl:s.acts<200:=by omega
    have HD:=hidL (WL a hN h3 hfa.1 hfa.2.2 hws ((HG.out.below hb).more hsz));have HX:=hidL (fun W1 row' S' cs h6 h7 h8 h9 h10 h11=>HK.out s a g wr W1 row row' S S' cs h3 h4 hsl hfa hb hI hN h6 h7 h8 h9 h10 h11);have HNr:=hidL hN;clear ha hs h3 h4 h5 hsl hfa hI hN;obtain⟨ak,an,am,nm,ot,tx⟩:=a;have q0:=hc.a0 rfl;have q1:=hc.at_ 1 rfl;have q2:=hc.at_ 2 rfl;have q3:=hc.at_ 3 rfl;have q4:=hc.at_ 4 rfl;have q5:=hc.at_ 5 rfl;clear hc;go_wp2_with fail;refine HD.out.mono ?_;obtain⟨r,hrr⟩:=exE (doF s ⟨ak,an,am,nm,ot,tx⟩);rw[←hrr] at HX HT ⊢;clear HD hrr;obtain⟨⟨rc,rn,rt,rf⟩,s2⟩:=r;rintro e w5 ⟨cs,S5,row5,rfl,⟨vf,rfl,hrf⟩,hN5,hS5,hr5,hT5⟩;obtain⟨RA,kF,rfl,-,-⟩:=hrf.form;dsimp only at hN5 hrf ⊢;have hb5:Below w0.heap.size wr w5:=HNr.out.KE hT5 hws |>.mono hsz
    have hz5:=hT5.size;have HRF:=hidL hrf;have HN5:=hidL hN5;have HS5:=hidL hS5;have HR5:=hidL hr5;have HT5:=hidL hT5;have hq:∀ i v,LL wr gA (oA+k*6+i) v→gA<wr.heap.size:=fun _ _ _=>hgl
    have hb50:Below w0.heap.size wr w5:=HNr.out.KE hT5 hws |>.mono hsz
    have e0:=(hb50.cell (p:=⟨gA,oA+k*6,none⟩) hgA).trans q0;have e1:=(hb50.cell (p:=⟨gA,oA+k*6+1,none⟩) hgA).trans q1;have e2:=(hb50.cell (p:=⟨gA,oA+k*6+2,none⟩) hgA).trans q2;have e3:=(hb50.cell (p:=⟨gA,oA+k*6+3,none⟩) hgA).trans q3;have e4:=(hb50.cell (p:=⟨gA,oA+k*6+4,none⟩) hgA).trans q4;have e5:=(hb50.cell (p:=⟨gA,oA+k*6+5,none⟩) hgA).trans q5;clear q0 q1 q2 q3 q4 q5 hq hb50 hrf hN5 hS5 hr5 hT5;go_upto_region 8 with fail;have z:=Box.new w5 32 [O rc,O rn,.string rt,.slice RA rf.length kF];have hbx:=(Below.here w5).alloc (Nat.le_refl _) (.cells [O rc,O rn,.string rt,.slice RA rf.length kF].toArray 32);have hgl5:gA<w5.heap.size:=by omega
    have e6:=(hbx.cell (p:=⟨gA,_,none⟩) hgl5).trans e0;have e7:=(hbx.cell (p:=⟨gA,_,none⟩) hgl5).trans e1;have e8:=(hbx.cell (p:=⟨gA,_,none⟩) hgl5).trans e2;have e9:=(hbx.cell (p:=⟨gA,_,none⟩) hgl5).trans e3;have e10:=(hbx.cell (p:=⟨gA,_,none⟩) hgl5).trans e4;have e11:=(hbx.cell (p:=⟨gA,_,none⟩) hgl5).trans e5;have HN6:=hidL (HN5.out.below hbx);have HRF6:=hidL ((RSl.fair aU.fair).below HRF.out hbx);have HT6:=hidL (HT5.out.via hbx);have hb6:=aa hb5 hbx (Nat.le_trans hsz (Nat.le_trans hws hz5));have hz6:=Nat.le_trans hz5 hbx.size;clear e0 e1 e2 e3 e4 e5 hbx hgl5 HRF HN5 HT5 hb5;generalize w5.heap.size=X at z ⊢;generalize World.alloc w5 _=W5 at z e6 e7 e8 e9 e10 e11 HN6 HRF6 HT6 hb6 hz6 ⊢;have hS:(fun W'=>LL W' gA (oA+k*6) (O ak)∧LL W' gA (oA+k*6+1) (O an)∧LL W' gA (oA+k*6+2) (O am)∧LL W' gA (oA+k*6+3) (.string nm)∧LL W' gA (oA+k*6+4) (.string ot)∧LL W' gA (oA+k*6+5) (.string tx)∧LL W' X 0 (O rc)∧LL W' X 1 (O rn)∧LL W' X 2 (.string rt)∧LL W' X 3 (.slice RA rf.length kF)) W5.drew:=⟨e6,e7,e8,e9,e10,e11,z.cell 0,z.cell 1,z.cell 2,z.cell 3⟩;have hv:=au (Below.here W5);clear e6 e7 e8 e9 e10 e11 z;have HN7:=hidL (HN6.out.below hv);have HRF7:=hidL ((RSl.fair aU.fair).below HRF6.out hv);have HT7:=hidL (HT6.out.via hv);have hb7:=au hb6;have hz7:=Nat.le_trans hz6 hv.size;clear HN6 HRF6 HT6 hb6 hz6 hv;refine aJ (fun W'=>LL W' gA (oA+k*6) (O ak)∧LL W' gA (oA+k*6+1) (O an)∧LL W' gA (oA+k*6+2) (O am)∧LL W' gA (oA+k*6+3) (.string nm)∧LL W' gA (oA+k*6+4) (.string ot)∧LL W' gA (oA+k*6+5) (.string tx)∧LL W' X 0 (O rc)∧LL W' X 1 (O rn)∧LL W' X 2 (.string rt)∧LL W' X 3 (.slice RA rf.length kF)) (fun i=>decide (i<7)) (by kernel_rfl) ?_;generalize W5.drew=V at hS HN7 HRF7 HT7 hb7 hz7 ⊢;apply ppP 0;apply ppP 1;apply ppP 2;apply ppP 3;apply ppP 4;apply tkP 5 hS;apply tkP 6 hS
    try simp only[pu]
    refine ang 7 (fun K hK=>?_);go_simp;rw[HE.out];dsimp only[Oper.upon];refine(HX.out V row5 S5 _ HT7.out (hb.trans hb7) HN7.out HS5.out HR5.out ⟨_,rfl,HRF7.out⟩).mono ?_;rintro e w6 ⟨rfl,hb8,hN8,hI8⟩;refine hK.out _ _ nay ?_
    try simp only[pu]
    apply ppP 8
    try simp only[pu]
    refine anf ?_ _;have hb9:=hbw.trans (hb7.trans hb8);have hz9:=Nat.le_trans hws (Nat.le_trans hz7 hb8.size);clear hS hb7 hb8 hz7 HN7 HRF7 HT7 HX;rw[←HT.out] at hN8 hI8;go_wp2;go_roundw
    case rel=>exact⟨k+1,row5,S5,by go_num,by omega,by omega,hN8,hI8,hb9,hz9⟩
    case measure=>simp[intOf];omega
   ·have d2:decide ((k:Int)<40)=false:=by simp;omega
    obtain rfl:k=40:=by omega
    go_wp2_with fail;refine bodyPost_ret (results_tmp2 rfl _ _ _) rfl ?_;exact⟨g,row,S,rfl,hN,hI,hbw⟩
  ·have hi1:¬ (k:Int)<l.length:=by omega
   obtain rfl:k=l.length:=by omega
   have hp:aeF l=Ic (l.take l.length):=by unfold aeF;rw[List.take_length,List.take_of_length_le hk4]
   rw[←hp] at hN hI;go_wp2_with fail;refine bodyPost_ret (results_tmp2 rfl _ _ _) rfl ?_;exact⟨g,row,S,rfl,hN,hI,hbw⟩
def Was {α:Type}(R:Rel α)(sz by_:Nat)(te:TypeId)(gb:Nat)(W:World)(xs:List α)(g:Nat)(row:Option Nat)(S:Nat→Prop):Prop :=
 gb≠g∧row≠some gb∧¬ S gb∧∃ v T,Box W gb te [v]∧RSl sz by_ R T W [v] xs∧¬ T gb∧¬ T g∧(∀ y,row=some y→¬ T y)∧∀ y,T y→y<W.heap.size
section
variable {α:Type}{R:Rel α}{sz by_ gb g:Nat}{te:TypeId}{W W0 W1:World}{xs ys:List α}{row row':Option Nat}{S S':Nat→Prop}{v':Value}
theorem Was.touch (h:Was R sz by_ te gb W xs g row S)(hR:Fair R)(ht:Touch row g W W1)(hS:∀ y,S' y→S y∨W.heap.size≤y)(hr:row'=row∨∀ k,row'=some k→W.heap.size≤k):Was R sz by_ te gb W1 xs g row' S':=by
 obtain⟨h1,h2,h3,v,T,hb,hx,t1,t2,t3,t4⟩:=h;have hl:=hb.lt;refine⟨h1,?_,?_,v,T,hb.touch ht h1 h2,(RSl.fair hR).keep hx (ht.keep t2 t3),t1,t2,?_,fun y hy=>Nat.lt_of_lt_of_le (t4 y hy) ht.size⟩
 ·rcases hr with rfl | hr
  ·exact h2
  ·intro e;have:=hr gb e;omega
 ·intro h;rcases hS gb h with h | h
  ·exact h3 h
  ·omega
 ·rcases hr with rfl | hr
  ·exact t3
  ·intro y e hy;have:=hr y e;have:=t4 y hy;omega
theorem Was.below (h:Was R sz by_ te gb W xs g row S)(hR:Fair R)(hb:Below W.heap.size W W1):Was R sz by_ te gb W1 xs g row S :=
 h.touch hR (Touch.below hb) (fun _ h=>.inl h) (.inl rfl)
theorem Was.open (h:Was R sz by_ te gb W xs g row S):∃ A c T,RSl sz by_ R T W [.slice A xs.length c] xs∧LL W gb 0 (.slice A xs.length c)∧gb<W.heap.size∧W.frozen? ⟨gb,0,none⟩=false:=by
 obtain⟨-,-,-,v,T,hb,hx,-⟩:=h;obtain⟨A,c,rfl,-,-⟩:=hx.form;exact⟨A,c,T,hx,hb.cell 0,hb.lt,hb.frozen 0⟩
theorem Was.store (h:Was R sz by_ te gb W xs g row S)(hR:Fair R)(hy:RSl sz by_ R (New W0) W [v'] ys)(hg:g<W0.heap.size)(hrow:∀ y,row=some y→y<W0.heap.size)(hgb:gb<W0.heap.size):Was R sz by_ te gb (W.setCell ⟨gb,0,none⟩ v') ys g row S:=by
 obtain⟨h1,h2,h3,v,T,hb,-⟩:=h;have hn:¬ (W0.heap.size≤gb∧gb<W.heap.size):=by omega
 exact⟨h1,h2,h3,v',fun y=>W0.heap.size≤y∧y<W.heap.size,hb.gB 0 v',(RSl.fair hR).keep ((RSl.fair hR).mono hy (fun y h k=>⟨h,k⟩)) (az.setCell _ _ hn),hn,by omega,fun y e h=>by have:=hrow y e;omega,fun y h=>by simpa using h.2⟩
theorem Was.new {W:World}(hb:Box W gb te [Z0])(hg:gb≠g):Was R sz by_ te gb W [] g none NoT :=
 ⟨hg,(fun e=>by cases e),(fun h=>h),_,NoT,hb,RSl.dJ,(fun h=>h),(fun h=>h),(fun _ e=>by cases e),fun _ h=>False.elim h⟩
theorem bS.was {base:Nat}{s:cK}(h:bS S row base W g s)(k:Was R sz by_ te gb W xs g row S)(v:Value):bS S row base (W.setCell ⟨gb,0,none⟩ v) g s:=h.far (p:=⟨gb,0,none⟩) v k.1 k.2.1 k.2.2.1
end
end
section
open Go.RowKit Go.ChangeShapes Go.WideShapes Go.Deep
def wh {α:Type}(P:Program)(t sz:Nat)(R:Rel α)(good:α→Prop):Prop :=
 ∀ (H:Type) (enc:TypeId × Value→H) (W:World) (spare:Nat→Bool) (held:Bool) (fuel:Nat) (cs:List Value) (x:DataW H × List MemPlace),
  (∀ n∈DataW.weights P t x.1,n≤reachBytes)→DataW.trod enc P W 0 spare held fuel t cs=some x→∃ y,cs.length=sz∧R (Old W) W cs y∧good y
section
variable {α:Type}{P:Program}
theorem jk {t:Nat}(h:P.underlying t=some (.int .i64)):wh P t 1 aQ (fun y => -9223372036854775808≤y∧y≤9223372036854775807):=by
 intro H enc W spare held fuel cs x _ ht;obtain⟨n,rfl,_,hw⟩:=DataW.trod_int h ht;have h1:IntKind.i64.min = -9223372036854775808:=rfl;have h2:IntKind.i64.max=9223372036854775807:=rfl;simp only[Lit.wf,Bool.and_eq_true,decide_eq_true_eq] at hw;exact⟨n,rfl,rfl,by omega,by omega⟩
theorem mH {t:Nat}(h:P.underlying t=some .string):wh P t 1 lQ (fun s=>s.size≤140737488351232):=by
 intro H enc W spare held fuel cs x hw ht;obtain⟨s,rfl,rfl,_⟩:=DataW.trod_string h ht;refine⟨s,rfl,rfl,?_⟩;have:=hw s.data.toList.length (by simp[DataW.weights]);simp[reachBytes] at this;exact this
theorem Nl {H:Type}{e:Nat}{l:List (DataW H)}{d:DataW H}(hd:d∈l){n:Nat}(hn:n∈DataW.weights P e d):n∈DataW.weightsAll P e l:=by
 induction l with
 | nil=>cases hd
 | cons x l ih =>
  simp only[DataW.weightsAll,List.mem_append];rcases List.mem_cons.1 hd with rfl | h
  ·exact .inl hn
  ·exact .inr (ih h)
theorem nA {t e sz by_:Nat}{R:Rel α}{good:α→Prop}(ht:P.underlying t=some (.slice e))(hsz:P.cellsOf e=sz)(h0:0<sz)(hby:P.bytesOf e=by_)(ho:wh P e sz R good) :
  wh P t 1 (RSl sz by_ R) (fun ys=>∀ y∈ys,good y):=by
 intro H enc W spare held fuel cs x hw hx;rcases open_slice ht hx with ⟨rfl,rfl⟩ | ⟨a,len,cap,m,n,D,Pl,rfl,hb,hl,hm,hmm,rfl,hi⟩
 ·exact⟨[],rfl,RSl.dJ,by simp⟩
 ·subst hsz;have hlm:len≤m:=by rw[hmm];split <;> omega
  have key:∀ i,i<len→∃ y cs',W.cells? 0 (a.add (i*P.cellsOf e)) (P.cellsOf e)=some cs'∧cs'.length=P.cellsOf e∧R (Old W) W cs' y∧good y:=by
   intro i hil;obtain⟨cs',hc,htr⟩:=hi i (by omega);have hin:D i∈(List.range len).map D:=List.mem_map.2 ⟨i,by simpa using hil,rfl⟩;obtain⟨y,h1,h2,h3⟩:=ho H enc W spare held n cs' _ (fun q hq=>hw q (by
    simp only[DataW.weights,ht,List.mem_cons,List.mem_append];exact .inr (.inl (Nl hin hq)))) htr
   exact⟨y,cs',hc,h1,h2,h3⟩
  let f:Nat→Option α:=fun i=>if h:i<len then some (key i h).choose else none
  have hf:∀ i (h:i<len),f i=some (key i h).choose:=fun i h=>by simp only[f];rw[dif_pos h]
  let ys:List α:=(List.range len).filterMap f
  have hys:∀ i (h:i<len),ys[i]? = some (key i h).choose:=by
   intro i h;have:ys=(List.range len).pmap (fun i (h:i<len)=>(key i h).choose) (fun i hi=>by simpa using hi):=by
    show List.filterMap f (List.range len)=_;apply List.ext_getElem?;intro j;have hfm:∀ l:List Nat,(∀ i∈l,i<len)→∀ j:Nat,(List.filterMap f l)[j]? = (l[j]?).bind f:=by
     intro l
     induction l with
     | nil=>intro _ j;simp
     | cons x l ih =>
      intro hl j;have hx:=hl x (by simp);rw[List.filterMap_cons,hf x hx];cases j with
      | zero=>simp[hf x hx]
      | succ j=>simpa using ih (fun i hi=>hl i (by simp[hi])) j
    rw[hfm _ (fun i hi=>by simpa using hi)]
    by_cases hj:j<len
    ·rw[List.getElem?_range hj];simp[hf j hj,List.getElem?_pmap,List.getElem?_range hj]
    ·rw[List.getElem?_eq_none (by simpa using hj),List.getElem?_eq_none (by simpa using hj)];rfl
   rw[this];simp[List.getElem?_pmap,List.getElem?_range h]
  have hyl:ys.length=len:=by
   have h1:∀ i,i<len→i<ys.length:=by
    intro i h;rcases Nat.lt_or_ge i ys.length with h' | h'
    ·exact h'
    ·have:=hys i h;rw[List.getElem?_eq_none h'] at this;cases this
   have h2:ys.length≤len:=by
    have:=List.length_filterMap_le f (List.range len);simpa using this
   rcases Nat.lt_or_ge ys.length len with h' | h'
   ·have:=h1 ys.length h';omega
   ·omega
  refine⟨ys,rfl,⟨some a,cap,by rw[hyl],by omega,?_,?_⟩,?_⟩
  ·have:=hw ((((List.range len).map D).length+((List.range (m-len)).map fun j=>D (len+j)).length)*P.bytesOf e) (by simp[DataW.weights,ht]);simp only[List.length_map,List.length_range,reachBytes] at this;rw[hyl,←hby];refine Nat.le_trans (Nat.mul_le_mul_right _ ?_) this;omega
  ·intro k y hk;have hkl:k<len:=by
    rcases Nat.lt_or_ge k len with h | h
    ·exact h
    ·rw[List.getElem?_eq_none (by omega)] at hk;cases hk
   rw[hys k hkl] at hk;injection hk with hk
   subst hk;obtain⟨cs',hc,hcl,hr,_⟩:=(key k hkl).choose_spec;obtain⟨_,_,hat⟩:=World.cells?_some hc;have hab:a.spot=none:=by
    obtain⟨cs0,hc0,hcl0,_,_⟩:=(key 0 (by omega)).choose_spec;obtain⟨_,_,hat0⟩:=World.cells?_some hc0;have h00:=hat0 0 h0;rw[List.getElem?_eq_getElem (by omega)] at h00;have h1:=World.cell?_spot h00;simpa[Addr.add] using h1
   have h00:=hat 0 h0;rw[List.getElem?_eq_getElem (by omega)] at h00;obtain⟨g,o,sp⟩:=a;simp only at hab;subst hab;have hadd:∀ o n,(⟨g,o,none⟩:Addr).add n=⟨g,o+n,none⟩:=by intro o n;unfold Addr.add;split <;> simp_all
   refine⟨g,o,cs',rfl,?_,?_,hcl,hr,fun j hj=>?_⟩
   ·have:=World.block_lt_of_cell? W _ h00;simpa[Old,hadd] using this
   ·have:=World.block_lt_of_cell? W _ h00;simpa[hadd] using this
   ·have:=hat j (by omega);rw[hadd,hadd] at this;exact this
  ·intro y hy;obtain⟨i,hi,rfl⟩:=List.getElem_of_mem hy;have h1:=hys i (by omega);rw[List.getElem?_eq_getElem hi] at h1;injection h1 with h1
   rw[h1];obtain⟨_,_,_,_,hg⟩:=(key i (by omega)).choose_spec;exact hg
theorem bU {H:Type}{enc:TypeId × Value→H}{W:World}{spare:Nat→Bool}{held:Bool}{fuel:Nat}{cs:List Value}{x:DataW H × List MemPlace}{t sz:Nat}{fs:Array Field}{R:Rel α}{good:α→Prop}
  (hs:P.underlying t=some (.struct fs)) (hw:∀ n∈DataW.weights P t x.1,n≤reachBytes) (h:DataW.trod enc P W 0 spare held fuel t cs=some x) (i:Nat) {f:Field} (hf:fs[i]? = some f)
  (hc:P.cellsOf f.type=sz) (ho:wh P f.type sz R good):∃ y,((cs.drop f.offset).take sz).length=sz∧R (Old W) W ((cs.drop f.offset).take sz) y∧good y:=by
 obtain⟨ys,n,_,rfl,_,hyl,hat⟩:=DataW.trod_struct hs h;have hi:=hat i f hf;have hil:i<ys.length:=by rw[hyl];exact(Array.getElem?_eq_some_iff.1 hf).1
 rw[List.getElem?_eq_getElem hil,hc] at hi;refine ho H enc W spare held n _ _ (fun q hq=>hw q ?_) hi;simp only[DataW.weights,hs];refine DataW.weights_mem_each (j:=i) (t:=f.type) (d:=ys[i].1) ?_ ?_ q hq
 ·rw[List.getElem?_map,Array.getElem?_toList,hf];rfl
 ·rw[List.getElem?_map,List.getElem?_eq_getElem hil];rfl
theorem iU {H:Type}{enc:TypeId × Value→H}{W:World}{spare:Nat→Bool}{held:Bool}{fuel:Nat}{cs:List Value}{x:DataW H × List MemPlace}{t:Nat}{fs:Array Field}
  (hs:P.underlying t=some (.struct fs)) (h:DataW.trod enc P W 0 spare held fuel t cs=some x):cs.length=P.cellsOf t:=by
 obtain⟨_,_,_,_,h,_⟩:=DataW.trod_struct hs h;exact h
theorem fe {H:Type}{enc:TypeId × Value→H}{W:World}{ts:List TypeId}{ds:List (DataW H)}{spare:Nat→Bool}{held:Bool}{t sz j:Nat}{v:Value}{d:DataW H}{p:List MemPlace}{R:Rel α}{good:α→Prop}
  (hsz:(DataW.weightsEach P ts ds).all (· ≤ reachBytes)=true) (ho:wh P t sz R good) (hj:ts[j]? = some t) (hd:ds[j]? = some d) (h:DataW.Trod enc P W 0 spare held t v d p) :
  ∃ y,v.cells.toList.length=sz∧R (Old W) W v.cells.toList y∧good y:=by
 obtain⟨fuel,hf⟩:=h;exact ho H enc W spare held fuel _ _ (fun n hn=>by
  have:=List.all_eq_true.1 hsz _ (DataW.weights_mem_each hj hd n hn);simpa using this) hf
theorem gM {H:Type}{enc:TypeId × Value→H}{f:Func}{s:ChangeSpec}{W W':World}{args:Array Value}{v:Value}{ds gs:List (DataW H)}{before pa pv:List MemPlace}
  (hW:DataW.Whole enc P f.params.toList s.vars false W args.toList ds gs before) (hb:Below W.heap.size W W') (pr:List MemPlace)
  (hres:DataW.TrodAll enc P W' W.heap.size (fun _=>false) false f.resultTypes.toList (v.resultList f.resultTypes.size) (s.fn H (ds++gs)).results pr)
  (hargs:DataW.TrodAll enc P W' 0 (fun b=>decide (b<W.heap.size)) true f.params.toList args.toList (s.fn H (ds++gs)).args pa)
  (hvars:DataW.TrodVars enc P W' (fun b=>decide (b<W.heap.size)) s.vars (s.fn H (ds++gs)).vars pv):s.post enc P f false true false false W args v W' :=
 ⟨_,_,_,pr,pa,pv,hW,hres,hargs,hvars,hb.frame _,fun h=>by cases h⟩
end
end
section
open Go.RowKit Go.ChangeShapes Go.WideShapes Go.ChangeAt
theorem Tryz.own:ownKnob Tryz.prog.godebug=none:=by kernel_rfl
theorem Tryz.laidOut:laidOutB Tryz.prog=true:=by kernel_rfl
theorem LH:wh Tryz.prog 35 6 Tn IM:=by
 intro H enc W spare held fuel cs x hw h;have hs:=Tryz.underlying35;have hl:=iU hs h;have hc:Tryz.prog.cellsOf 35=6:=by kernel_rfl
 rw[hc] at hl;obtain⟨a,_,ha,_⟩:=bU hs hw h 0 rfl (by kernel_rfl) (jk Tryz.underlying3);obtain⟨b,_,hb,_⟩:=bU hs hw h 1 rfl (by kernel_rfl) (jk Tryz.underlying3);obtain⟨c,_,hc,_⟩:=bU hs hw h 2 rfl (by kernel_rfl) (jk Tryz.underlying3);obtain⟨d,_,hd,hds⟩:=bU hs hw h 3 rfl (by kernel_rfl) (mH Tryz.underlying9);obtain⟨e,_,he,hes⟩:=bU hs hw h 4 rfl (by kernel_rfl) (mH Tryz.underlying9);obtain⟨f,_,hf,hfs⟩:=bU hs hw h 5 rfl (by kernel_rfl) (mH Tryz.underlying9)
 match cs,hl with
 | [c0,c1,c2,c3,c4,c5],_ =>
  have e0:c0=O a:=by simpa[aQ,dS] using ha
  have e1:c1=O b:=by simpa[aQ,dS] using hb
  have e2:c2=O c:=by simpa[aQ,dS] using hc
  have e3:c3=.string d:=by simpa[lQ,dS] using hd
  have e4:c4=.string e:=by simpa[lQ,dS] using he
  have e5:c5=.string f:=by simpa[lQ,dS] using hf
  subst e0 e1 e2 e3 e4 e5;exact⟨⟨a,b,c,d,e,f⟩,rfl,rfl,hds,hes,hfs⟩
theorem GV:wh Tryz.prog 22 1 (RSl 6 72 Tn) (fun l=>∀ a∈l,IM a) :=
 nA Tryz.underlying22 (by kernel_rfl) (by decide) (by kernel_rfl) LH
end
section
open Go.RowKit Go.ChangeShapes Go.WideShapes Go.Deep
theorem BG {P:Program}{H:Type}{enc:TypeId × Value→H}{W:World}{spare:Nat→Bool}{held:Bool}{fuel t e:Nat}{cs:List Value}{l:List (List UInt8)}{p:List MemPlace}
  (ht:P.underlying t=some (.slice e)) (he:P.underlying e=some .string) (hc:P.cellsOf e=1) (hs:l.length*16≤140737488351232)
  (h:DataW.trod enc P W 0 spare held fuel t cs=some (.slice (l.map fun b=>.lit (.string b)) [],p)) :
  ∃ v,cs=[v]∧RSl 1 16 lQ (fun _=>True) W [v] (l.map fun b=>⟨b.toArray⟩):=by
 rcases open_slice1 ht hc h with ⟨rfl,hx⟩ | ⟨a,len,cap,m,n,V,D,Pl,rfl,hb,hl,hm,hmm,hx,hi⟩
 ·cases (Prod.mk.inj hx).1
 ·obtain⟨h1,h2⟩:=DataW.slice.inj (Prod.mk.inj hx).1;have hlen:l.length=len:=by simpa using congrArg List.length h1
  have hlm:len≤m:=by rw[hmm];split <;> omega
  refine⟨_,rfl,some a,cap,by simp[hlen],by simp[hlen];exact hl,by simpa using hs,?_⟩;intro k x hx;rw[List.getElem?_map] at hx;have hk:k<l.length:=by
   rcases Nat.lt_or_ge k l.length with h | h
   ·exact h
   ·rw[List.getElem?_eq_none h] at hx;cases hx
  rw[List.getElem?_eq_getElem hk] at hx;simp only[Option.map_some,Option.some.injEq] at hx;obtain⟨hcell,htr⟩:=hi k (by omega);obtain⟨s,e1,e2,_⟩:=DataW.trod_string he htr;have hd:D k=.lit (.string l[k]):=by
   have:=congrArg (·[k]?) h1;simp only[List.getElem?_map,List.getElem?_eq_getElem hk,List.getElem?_range (show k<len by omega),Option.map_some,Option.some.injEq] at this;exact this.symm
  have hsb:s.data.toList=l[k]:=by
   rw[hd] at e2;have:=(Prod.mk.inj e2).1;injection this with this
   injection this with this
   exact this.symm
  have hV:V k=.string x:=by
   have h0:V k=.string s:=by simpa using e1
   rw[h0,←hx,←hsb]
  have hlt:=World.block_lt_of_cell? W _ hcell;have hsp:=World.cell?_spot (hi 0 (by omega)).1;obtain⟨g,o,sp⟩:=a;have hs0:sp=none:=by simpa[Addr.add] using hsp
  subst hs0;have hadd:(⟨g,o,none⟩:Addr).add k=⟨g,o+k,none⟩:=by unfold Addr.add;split <;> simp_all
  rw[hadd] at hcell hlt;refine⟨g,o,[.string x],rfl,trivial,hlt,rfl,rfl,fun j hj=>?_⟩;have:j=0:=by simpa using hj
  subst this;rw[Nat.mul_one,Nat.add_zero,hcell,hV];rfl
theorem MF {P:Program}{W:World}{n:String}{d:DataW Unit}:∀ {laid:List (String × DataW Unit)} {ps:List MemPlace},DataW.LaidVars P W laid ps→(n,d)∈laid →
  ∃ g t cs fuel p,P.globalNamed n=some g∧(P.globals[g]?).map (·.type)=some t∧W.var? P n=some cs∧DataW.trod (fun _=>()) P W 0 (fun _=>true) false fuel t cs.toList=some (d,p)∧∀ i,i<cs.size→MemPlace.cell g i∈ps
 | [],_,_,hm=>by cases hm
 | (n',d')::r,ps,h,hm=>by
  obtain⟨g,t,cs,fuel,p,q,h1,h2,h3,h4,h5,rfl⟩:=h;rcases List.mem_cons.1 hm with e | hm
  ·injection e with e1 e2
   subst e1 e2;refine⟨g,t,cs,fuel,p,h1,h2,h3,h4,fun i hi=>?_⟩;refine List.mem_append_left _ (List.mem_append_left _ ?_);unfold MemPlace.row;exact List.mem_map.2 ⟨i,List.mem_range.2 hi,by simp⟩
  ·obtain⟨g2,t2,cs2,f2,p2,a1,a2,a3,a4,a5⟩:=MF h5 hm;exact⟨g2,t2,cs2,f2,p2,a1,a2,a3,a4,fun i hi=>List.mem_append_right _ (a5 i hi)⟩
theorem OJ {P:Program}{W:World}{n:String}{d:DataW Unit}{laid:List (String × DataW Unit)}(h:laidMet P laid W)(hm:(n,d)∈laid) :
  ∃ g t cs fuel p,P.globalNamed n=some g∧(P.globals[g]?).map (·.type)=some t∧W.var? P n=some cs∧DataW.trod (fun _=>()) P W 0 (fun _=>true) false fuel t cs.toList=some (d,p)∧(0<cs.size→∃ c u,W.heap[g]? = some (.cells c u (0,0))):=by
 obtain⟨ps,h1,_,h3⟩:=h;obtain⟨g,t,cs,fuel,p,a1,a2,a3,a4,a5⟩:=MF h1 hm;exact⟨g,t,cs,fuel,p,a1,a2,a3,a4,fun h0=>(h3 g 0 (a5 0 h0)).1⟩
theorem Uf {H:Type}{enc:TypeId × Value→H}{P:Program}{w:World}{base:Nat}{sp:Nat→Bool}{held:Bool}{fuel:Nat}{t e:TypeId}{n:Nat}{cs:List Value}{zs:List (List UInt8)}{p:List MemPlace}
  (ht:P.underlying t=some (.array n e)) (he:P.underlying e=some .string) (hce:P.cellsOf e=1) (hct:P.cellsOf t=n)
  (h:DataW.trod enc P w base sp held fuel t cs=some (.agg (zs.map fun z=>.lit (.string z)),p)):cs=zs.map fun z=>Value.string ⟨z.toArray⟩:=by
 cases fuel with
 | zero=>simp[DataW.trod] at h
 | succ fuel =>
  simp only[DataW.trod,ht,hce,hct,Nat.mul_one] at h;split at h
  ·rename_i hl
   obtain⟨xs,hm,hx⟩:=Option.map_eq_some_iff.1 h;have hxs:xs.map (·.1)=zs.map fun z=>(DataW.lit (.string z):DataW H):=by
    have:=congrArg Prod.fst hx;simpa using this
   have hxl:xs.length=n:=by simpa using Lib.mapM_length hm
   have hzl:zs.length=n:=by
    have:=congrArg List.length hxs;simp at this;omega
   apply List.ext_getElem?;intro i
   by_cases hi:i<n
   ·obtain⟨b,hb,hf⟩:=Lib.mapM_at hm i i (by simp[hi]);obtain⟨z,hc,rfl,_⟩:=DataW.trod_string he hf;have h1:cs[i]? = some (.string z):=by
     have:=congrArg (·[0]?) hc;simpa[List.getElem?_take,List.getElem?_drop] using this
    have h2:(xs.map (·.1))[i]? = some (DataW.lit (.string z.data.toList):DataW H):=by simp[hb]
    rw[hxs] at h2;simp only[List.getElem?_map,Option.map_eq_some_iff,DataW.lit.injEq,Lit.string.injEq] at h2;obtain⟨z',hz',e2⟩:=h2;rw[h1,List.getElem?_map,hz',e2];rfl
   ·rw[List.getElem?_eq_none (by omega),List.getElem?_eq_none (by simp;omega)]
  ·cases h
theorem ym {W:World} {laid:List (String × DataW Unit)} (h:laidMet Tryz.prog laid W) (hm:("patternbook/book.words",Rows.laid_patternbook_book_words)∈laid):Words W:=by
 obtain⟨g,t,cs,fuel,p,hg,ht,hv,hd,_⟩:=OJ h hm;obtain rfl:=Option.some.inj ((show Tryz.prog.globalNamed "patternbook/book.words" = some 2 by kernel_rfl).symm.trans hg)
 obtain rfl:=Option.some.inj ((show (Tryz.prog.globals[2]?).map (·.type)=some 81 by kernel_rfl).symm.trans ht);obtain⟨v,hv1,hr⟩:=BG (l:=[[98,111,111,108],[101,110,117,109],[103,111,110,101],[105,110,116],[109,97,110,121],[109,97,121,98,101],[109,101,115,115,97,103,101],[111,110,101],[116,101,120,116]]) Tryz.underlying81 Tryz.underlying9 (by kernel_rfl) (by decide) hd;refine⟨v,?_,hr⟩;rw[World.var?_cell hg hv 0];have:cs.toList[0]? = some v:=by rw[hv1];rfl
 simpa using this
theorem ajp {W:World}{laid:List (String × DataW Unit)}{n nm:String}{d:DataW Unit}{g0:Nat}(h:laidMet Tryz.prog laid W)(hm:(n,.iface nm d)∈laid)(hg0:Tryz.prog.globalNamed n=some g0)(ht0:(Tryz.prog.globals[g0]?).map (·.type)=some 125) :
  ∃ ev,W.cell? ⟨g0,0,none⟩=some ev∧(ev=.nilIface∨∃ te pe,ev=.iface te pe):=by
 obtain⟨g,t,cs,fuel,p,hg,ht,hv,hd,_⟩:=OJ h hm;obtain rfl:=Option.some.inj (hg0.symm.trans hg);obtain rfl:=Option.some.inj (ht0.symm.trans ht);obtain⟨f2,u,v,hcs,_,_⟩:=iface_of_trod Tryz.underlying125 hd;refine⟨.iface u v,?_,.inr ⟨u,v,rfl⟩⟩;rw[World.var?_cell hg hv 0];have:cs.toList[0]? = some (.iface u v):=by rw[hcs];rfl
 simpa using this
theorem Cf {W:World} {laid:List (String × DataW Unit)} (h:laidMet Tryz.prog laid W) (h1:("internal/strconv.uint64pow10",Rows.laid_internal_strconv_uint64pow10)∈laid) (h2:("strconv.ErrSyntax",Rows.laid_strconv_ErrSyntax)∈laid) (h3:("strconv.ErrRange",Rows.laid_strconv_ErrRange)∈laid):wO W:=by
 refine⟨?_,ajp h h2 (by kernel_rfl) (by kernel_rfl),ajp h h3 (by kernel_rfl) (by kernel_rfl)⟩;obtain⟨g,t,cs,fuel,p,hg,ht,hv,hd,_⟩:=OJ h h1;obtain rfl:=Option.some.inj ((show Tryz.prog.globalNamed "internal/strconv.uint64pow10" = some 4 by kernel_rfl).symm.trans hg)
 obtain rfl:=Option.some.inj ((show (Tryz.prog.globals[4]?).map (·.type)=some 269 by kernel_rfl).symm.trans ht);have hcs:=Lib.cells_of_tab (k:=.u64) (zs:=Lib.pow10Tab) Tryz.underlying269 Tryz.underlying221 (by kernel_rfl) (by kernel_rfl) hd;show W.var? Tryz.prog _=_;rw[hv,←hcs]
theorem row_in {W:World}{laid:List (String × DataW Unit)}{n:String}{zs:List (List UInt8)}{g0:Nat}(h:laidMet Tryz.prog laid W)(hm:(n,.agg (zs.map fun z=>.lit (.string z)))∈laid)(hg0:Tryz.prog.globalNamed n=some g0)(ht0:(Tryz.prog.globals[g0]?).map (·.type)=some 129)(hz:0<zs.length) :
  ∃ e,Box W g0 e (zs.map fun z=>Value.string ⟨z.toArray⟩):=by
 obtain⟨g,t,cs,fuel,p,hg,ht,hv,hd,hc⟩:=OJ h hm;obtain rfl:=Option.some.inj (hg0.symm.trans hg);obtain rfl:=Option.some.inj (ht0.symm.trans ht);have hcs:=Uf Tryz.underlying129 Tryz.underlying9 (by kernel_rfl) (by kernel_rfl) hd;have hsz:0<cs.size:=by rw[←Array.length_toList,hcs,List.length_map];exact hz
 obtain⟨c,u,hu⟩:=hc hsz;refine⟨u,?_⟩;unfold Box;rw[hu];have:W.var? Tryz.prog n=some c:=by simp[World.var?,hg,hu]
 rw[this] at hv;injection hv with hv
 rw[←hcs,hv]
theorem xZ {W:World} {laid:List (String × DataW Unit)} (h:laidMet Tryz.prog laid W) (h1:("patternbook/book.rules",Rows.laid_patternbook_book_rules)∈laid) (h2:("patternbook/book.kinds",Rows.laid_patternbook_book_kinds)∈laid):Lists W :=
 ⟨row_in (zs:=[[],[111,110,101],[109,97,121,98,101],[109,97,110,121]]) h h1 (by kernel_rfl) (by kernel_rfl) (by decide),row_in (zs:=[[],[98,111,111,108],[105,110,116],[116,101,120,116]]) h h2 (by kernel_rfl) (by kernel_rfl) (by decide)⟩
end
end Go.Proofs.YtknnhpkjgnkcdaaGreatDoor
