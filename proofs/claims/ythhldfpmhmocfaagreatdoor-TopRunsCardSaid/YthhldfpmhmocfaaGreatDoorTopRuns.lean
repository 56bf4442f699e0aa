/- The walk of the statement TopRuns: the replies to a beginning are the beginning of the replies. -/
import Derived.Test.YthhldfpmhmocfaaGreatDoorRun
import Derived.Test.YthhldfpmhmocfaaGreatDoorTopLike
set_option linter.all false
set_option maxRecDepth 100000
set_option maxHeartbeats 8000000
namespace Go.Proofs.YthhldfpmhmocfaaGreatDoor
open Go.Proofs.Tryz
open Go.RowKit
theorem Tn.fair:Fair Tn:=dS.fair _
theorem Tn.ones:pE Tn:=fun {S w cs x} h=>by
 obtain rfl:cs=fQ x:=h;exact gI.bK rfl
theorem k_round (kk:Int)(n:Nat)(hn:n≤40):∃ m:Nat,(wrap64 (wrap64 (kk.tmod ((n:Int)+1)+n)+1)).tmod ((n:Int)+1)=m∧m≤n:=by
 have h1:=Int.tmod_lt_of_pos kk (show (0:Int)<(n:Int)+1 by omega);have h2:=Int.lt_tmod_of_pos kk (show (0:Int)<(n:Int)+1 by omega);generalize kk.tmod ((n:Int)+1)=t at h1 h2 ⊢;rw[IntWalk.wrap64_in _ (by omega : -9223372036854775808≤t+n∧t+n≤9223372036854775807),IntWalk.wrap64_in _ (by omega : -9223372036854775808≤t+n+1∧t+n+1≤9223372036854775807),Int.tmod_eq_emod_of_nonneg (by omega)];have h3:=Int.emod_nonneg (t+n+1) (show ((n:Int)+1)≠0 by omega);have h4:=Int.emod_lt_of_pos (t+n+1) (show (0:Int)<(n:Int)+1 by omega);exact⟨((t+n+1) % ((n:Int)+1)).toNat,by omega,by omega⟩
theorem topRuns_any (S:Nat→Prop)(v:Value)(l:List mG)(kk:Int)(w:World)(hl:RSl 6 72 Tn S w [v] l)(hfit:∀ a∈l,IM a)(hG:qW w.heap.size w):Calls prog 7 #[v,.int .i64 kk] w (Ret w (.bool true)):=by
 obtain⟨A,cap,rfl,hlc,hlb⟩:=hl.form;have HL:=hidL hl;have HF:=hidL hfit;have HG:=hidL hG;have HA:=hidL (aha w hG);clear hl hfit hG;go_enter func7,ntmps7;go_wp2_with fail;refine HA.out.mono ?_;rintro e w1 ⟨rfl,hb1⟩
 by_cases hm:40<l.length
 ·have HA2:=hidL (aha w1 ((HG.out.below hb1).more hb1.size));have hmi:(40:Int)<l.length:=by omega
  go_wp2_with fail;refine HA2.out.mono ?_;rintro e w2 ⟨rfl,hb2⟩;have hb3:=aa hb1 hb2 hb1.size;clear HA HA2 hb1 hb2;go_wp2_with fail;go_ret;exact⟨rfl,hb3⟩
 ·have hmi:¬ (40:Int)<l.length:=by omega
  have hl1:=(RSl.fair Tn.fair).below HL.out hb1;have HL1:=hidL hl1;have HG1:=hidL ((HG.out.below hb1).more hb1.size);have HB1:=hidL hb1;have hs1:=hb1.size;have hsrc:=hidL (show Src 6 (dS fQ) NoT w1 A l from(hl1.src (by decide) Tn.ones:Src 6 (dS fQ) S w1 A l));clear hl1 hb1 HA;go_upto_region 4 with fail;obtain⟨m,hmv,hml⟩:=k_round kk l.length (by omega);rw[hmv];obtain⟨lm,hlm⟩:=exE (l.take m);obtain rfl:m=lm.length:=by rw[hlm,List.length_take];omega
  have hdr:l=lm++l.drop lm.length:=by
   have:=(List.take_append_drop lm.length l).symm
   rwa [←hlm] at this
  have HDR:=hidL hdr;have HLM:=hidL hlm;have HFM:=hidL (fun a (h:a∈lm)=>HF.out a (List.mem_of_mem_take (hlm ▸ h)));clear hmv hdr hlm;go_wp2_with (at_builtin;go_must (refine bv _ rfl (.const (.slice none 0 0)) (.tmp 32) rfl sl_acts Tn.fair rfl rfl (Own.dJ w1.heap.size _ _ _ NoT _) hsrc.out (NoT.lt _) ?_ ?_ ?_))
  ·show (0+l.length)*72≤_;omega
  ·exact Nat.le_refl _
  ·intro v2 w2 ho2 hg2 _;replace ho2:Own _ _ _ _ _ _ _ l:=ho2;have hb2:Below w1.heap.size w1 w2:=below_grown (Below.refl _ _) hg2 (Nat.le_refl _) (fun y e=>by simp[Value.ownBlock] at e);have hr2:RSl 6 72 Tn (New w1) w2 [v2] l:=ho2.read Tn.fair (fun _ h=>h.elim) (fun k e=>(ho2.lt e).1) (by omega);obtain⟨A2,c2,rfl,-,-⟩:=hr2.form;have HR:=hidL (run_any _ _ l w2 hr2 HF.out (by omega) ((HG1.out.below hb2).more hb2.size));have HB2:=hidL (aa HB1.out hb2 hs1);have HL2:=hidL ((RSl.fair Tn.fair).below HL1.out hb2);have HG2:=hidL ((HG1.out.below hb2).more hb2.size);have hs2:=Nat.le_trans hs1 hb2.size;clear ho2 hg2 hr2 hb2 hsrc HB1 HL1 HG1;go_wp2_with fail;refine HR.out.mono ?_;rintro e w3 ⟨v3,rfl,hr3,hb3⟩;obtain⟨A3,c3,rfl,-,-⟩:=hr3.form;have hb03:=aa HB2.out hb3 hs2;have hl3:=(RSl.fair Tn.fair).below HL2.out hb3;rw[HDR.out] at hl3;have hsrc:=hidL (show Src 6 (dS fQ) NoT w3 A lm from((RSl.front hl3).src (by decide) Tn.ones:Src 6 (dS fQ) S w3 A lm));have HR3:=hidL hr3;have HB3:=hidL hb03;have HG3:=hidL ((HG2.out.below hb3).more hb3.size);have hs3:=Nat.le_trans hs2 hb3.size;have hlmc:(lm.length:Int)≤cap:=by omega
   clear hr3 hb3 hb03 hl3 HR HB2 HL2 HG2;go_wp2_with (at_builtin;go_must (refine bv _ rfl (.const (.slice none 0 0)) (.tmp 40) rfl sl_acts Tn.fair rfl rfl (Own.dJ w3.heap.size _ _ _ NoT _) hsrc.out (NoT.lt _) ?_ ?_ ?_))
   ·show (0+lm.length)*72≤_;omega
   ·exact Nat.le_refl _
   ·intro v4 w4 ho4 hg4 _;replace ho4:Own _ _ _ _ _ _ _ lm:=ho4;have hb4:Below w3.heap.size w3 w4:=below_grown (Below.refl _ _) hg4 (Nat.le_refl _) (fun y e=>by simp[Value.ownBlock] at e);have hr4:RSl 6 72 Tn (New w3) w4 [v4] lm:=ho4.read Tn.fair (fun _ h=>h.elim) (fun k e=>(ho4.lt e).1) (by omega);obtain⟨A4,c4,rfl,-,-⟩:=hr4.form;have HR:=hidL (run_any _ _ lm w4 hr4 HFM.out (by omega) ((HG3.out.below hb4).more hb4.size));have HB4:=hidL (aa HB3.out hb4 hs3);have HR4:=hidL ((RSl.fair jd.fair).below HR3.out hb4);have hs4:=Nat.le_trans hs3 hb4.size;clear ho4 hg4 hr4 hb4 hsrc HB3 HR3 HG3;go_wp2_with fail;refine HR.out.mono ?_;rintro e w5 ⟨v5,rfl,hr5,hb5⟩;obtain⟨A5,c5,rfl,-,-⟩:=hr5.form;have HB5:=hidL (aa HB4.out hb5 hs4);have HX:=hidL ((RSl.fair jd.fair).below HR4.out hb5);have HY:=hidL hr5;have hs5:=Nat.le_trans hs4 hb5.size;obtain⟨L1,hL1⟩:=exE (toldL .new l);obtain⟨L2,hL2⟩:=exE (toldL .new lm);have e1:L1.length=l.length:=by rw[hL1,toldL_len]
    have e2:L2.length=lm.length:=by rw[hL2,toldL_len]
    have e3:L2=L1.take lm.length:=by rw[hL2,hL1,←toldL_take];exact congrArg _ HLM.out
    rw[←hL1] at HX ⊢;rw[←hL2] at HY ⊢;rw[e1,e2];rw[e1] at HX;rw[e2] at HY;have E1:=hidL e1;have E2:=hidL e2;have E3:=hidL e3;clear hr5 hb5 HB4 HR4 HR hL1 hL2 e1 e2 e3;go_wp2_with fail;go_loopw [9] (fun i wr=>∃ k:Nat,i=.int .i64 k∧k≤lm.length∧Below w5.heap.size w5 wr) (fun i _=>lm.length-(intOf i).toNat)
    case atStart=>exact⟨0,rfl,Nat.zero_le _,Below.refl _ _⟩
    case round =>
     obtain⟨k,rfl,hk,hb⟩:=hrel
     by_cases hlt:k<lm.length
     ·have hl1:k<L1.length:=by have:=E1.out;omega
      have hl2:k<L2.length:=by have:=E2.out;omega
      have hee:L2[k]=L1[k]:=by
       have:=E3.out;subst this;rw[List.getElem_take]
      obtain⟨g1,o1,es1,hA3,-,hg1,-,hrx,hlx⟩:=((RSl.fair jd.fair).below (E1.out.symm ▸ HX.out:RSl 4 56 jd _ w5 [.slice A3 L1.length c3] L1) hb).at_ hl1;obtain⟨g2,o2,es2,hA5,-,hg2,-,hry,hly⟩:=((RSl.fair jd.fair).below (E2.out.symm ▸ HY.out:RSl 4 56 jd _ w5 [.slice A5 L2.length c5] L2) hb).at_ hl2;subst hA3 hA5;rw[hee] at hry;obtain⟨⟨rc,rn,rt,rf⟩,hre⟩:∃ r,r=L1[k]:=⟨_,rfl⟩;rw[←hre] at hrx hry;have HX1:=hidL hrx;have HY1:=hidL hry;obtain⟨f1,rfl,hf1⟩:=hrx;obtain⟨f2,rfl,hf2⟩:=hry;dsimp only at hf1 hf2 hlx hly;obtain⟨F1,k1,rfl,-,-⟩:=hf1.form;obtain⟨F2,k2,rfl,-,-⟩:=hf2.form;have HS:=hidL (fun W (h:Below wr.heap.size wr W)=>show (fun W'=>World.cell? W' ⟨g1,o1+k*4,none⟩=some (.int .i64 rc)∧World.cell? W' ⟨g1,o1+k*4+1,none⟩=some (.int .i64 rn)∧World.cell? W' ⟨g1,o1+k*4+2,none⟩=some (.string rt)∧World.cell? W' ⟨g1,o1+k*4+3,none⟩=some (.slice F1 rf.length k1)∧World.cell? W' ⟨g2,o2+k*4,none⟩=some (.int .i64 rc)∧World.cell? W' ⟨g2,o2+k*4+1,none⟩=some (.int .i64 rn)∧World.cell? W' ⟨g2,o2+k*4+2,none⟩=some (.string rt)∧World.cell? W' ⟨g2,o2+k*4+3,none⟩=some (.slice F2 rf.length k2)) W from⟨(h.cell (p:=⟨g1,o1+k*4,none⟩) hg1).trans (hlx.at_ 0 rfl),(h.cell (p:=⟨g1,o1+k*4+1,none⟩) hg1).trans (hlx.at_ 1 rfl),(h.cell (p:=⟨g1,o1+k*4+2,none⟩) hg1).trans (hlx.at_ 2 rfl),(h.cell (p:=⟨g1,o1+k*4+3,none⟩) hg1).trans (hlx.at_ 3 rfl),(h.cell (p:=⟨g2,o2+k*4,none⟩) hg2).trans (hly.at_ 0 rfl),(h.cell (p:=⟨g2,o2+k*4+1,none⟩) hg2).trans (hly.at_ 1 rfl),(h.cell (p:=⟨g2,o2+k*4+2,none⟩) hg2).trans (hly.at_ 2 rfl),(h.cell (p:=⟨g2,o2+k*4+3,none⟩) hg2).trans (hly.at_ 3 rfl)⟩);have hi1:(k:Int)<l.length:=by omega
      have hi2:(k:Int)<lm.length:=by omega
      clear hf1 hf2 hlx hly hee hre hl1 hl2 hg1 hg2;go_upto_region 11 with fail;have hw:=au (Below.refl wr.heap.size wr);have hS:=HS.out _ hw;have HC:=hidL (aki _ _ _ _ (⟨rc,rn,rt,rf⟩:kR) wr.drew (jd.fair.below HX1.out hw) (jd.fair.below HY1.out hw));refine aJ (fun W'=>World.cell? W' ⟨g1,o1+k*4,none⟩=some (.int .i64 rc)∧World.cell? W' ⟨g1,o1+k*4+1,none⟩=some (.int .i64 rn)∧World.cell? W' ⟨g1,o1+k*4+2,none⟩=some (.string rt)∧World.cell? W' ⟨g1,o1+k*4+3,none⟩=some (.slice F1 rf.length k1)∧World.cell? W' ⟨g2,o2+k*4,none⟩=some (.int .i64 rc)∧World.cell? W' ⟨g2,o2+k*4+1,none⟩=some (.int .i64 rn)∧World.cell? W' ⟨g2,o2+k*4+2,none⟩=some (.string rt)∧World.cell? W' ⟨g2,o2+k*4+3,none⟩=some (.slice F2 rf.length k2)) (fun i=>i != 8) (by kernel_rfl) ?_;generalize wr.drew=Wd at hw hS HC ⊢;clear HS HX1 HY1;refine ppP 0 ?_;refine ppP 1 ?_;refine ppP 2 ?_;refine tkP 3 hS ?_;refine ppP 4 ?_;refine ppP 5 ?_;refine ppP 6 ?_;refine tkP 7 hS ?_
      try simp only[pu]
      refine ang 8 (fun K hK=>?_);go_simp;refine HC.out.mono ?_;rintro e w6 ⟨rfl,hb6⟩;have hb9:=aa hb (aa hw hb6 hw.size) hb.size;refine hK.out _ _ nay ?_;clear hK K
      try simp only[pu]
      refine ppP 9 ?_
      try simp only[pu]
      refine anf ?_ _;clear hS hw hb6 HC;go_wp2_with fail;go_roundw
      case rel=>exact⟨k+1,by go_num,hlt,hb9⟩
      case measure=>simp[intOf];omega
     ·have hi2:¬ (k:Int)<lm.length:=by omega
      have hb9:=aa HB5.out hb hs5;go_wp2_with fail;go_ret;exact⟨rfl,hb9⟩
end Go.Proofs.YthhldfpmhmocfaaGreatDoor
