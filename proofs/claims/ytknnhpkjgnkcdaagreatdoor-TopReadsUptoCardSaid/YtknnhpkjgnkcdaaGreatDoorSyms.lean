/- Walks and plain laws. -/
import Derived.Test.YtknnhpkjgnkcdaaGreatDoorSorts
set_option linter.all false
set_option maxRecDepth 100000
set_option maxHeartbeats 20000000
namespace Go.Proofs.YtknnhpkjgnkcdaaGreatDoor
section
open Go.Proofs.Tryz
open Go.RowKit
attribute [local go_sem ↓] Go.wp_at_zero Go.wp_at_succ
theorem wrap_u64 (x:Int)(h0:0≤x)(h1:x<18446744073709551616):IntKind.u64.wrap x=x:=IntWalk.u64_in x ⟨h0,by omega⟩
def MI {α:Type}[SK α](d:Nat)(J:List α→Prop):Prop:=∀ (base:Nat) (T:Nat→Prop) (g cap n:Nat) (w W:World) (xs:List α),qj J base T g cap n w W xs→n≤1000000→∀ a m b:Nat,a<m→m<b→b≤n→b-a≤d →
 Calls prog (SK.fs α) #[.slice (some ⟨g,0,none⟩) n cap,O a,O m,O b,.func (.func (SK.fc α)) #[] #[]] W (ajv J base T g cap n w)
theorem amr (d:Nat):adO fun J=>MI d J→MI (d+1) J:=by
 refine⟨?_,?_,?_⟩
 all_goals as_aux_lemma =>
  intro J hJ IH base T g cap n w W xs hI hn a m b ham hmb hb hd;have HI:=hidL hI;clear hI;have hrot:ajx J:=by first | exact amx.1 J hJ | exact amx.2.1 J hJ | exact amx.2.2 J hJ
  dsimp only[ajx,SK.fr,SK.fc] at hrot;dsimp only[MI,SK.fs,SK.fc] at IH;have Hrot:=hidL hrot;clear hrot;have Hih:=hidL IH;clear IH;have e1:IntKind.i64.wrap ((m:Int)-a)=(m:Int)-a:=IntWalk.i64_in _ (by omega);have e2:IntKind.i64.wrap ((b:Int)-m)=(b:Int)-m:=IntWalk.i64_in _ (by omega);dsimp only[SK.fi,SK.fw,SK.fr,SK.fs,SK.ft,SK.fc]
  first
   | (go_enter func149,ntmps149)
   | (go_enter func136,ntmps136)
   | (go_enter func105,ntmps105)
  by_cases hma:m-a=1
  ·--[M1
   have em:((m:Int)-a==1)=true:=by simp;omega
   go_wp2_with fail;clear e1 e2 em;go_loopw [10,11] (fun c10 c11 wr=>∃ i j:Nat,∃ zs,c10=O i∧c11=O j∧m≤i∧i≤j∧j≤b∧qj J base T g cap n w wr zs) (fun c10 c11 _=>(intOf c11).toNat-(intOf c10).toNat)
   case atStart=>exact⟨m,b,xs,rfl,rfl,Nat.le_refl _,by omega,Nat.le_refl _,HI.out⟩
   case round =>
    obtain⟨i,j,zs,rfl,rfl,hmi,hij,hjb,hI⟩:=hrel
    by_cases hlt:i<j
    ·obtain⟨hh,hhe⟩:=exE ((i+j) / 2);have es:IntKind.i64.wrap ((i:Int)+j)=(i:Int)+j:=IntWalk.i64_in _ (by omega);have eu:IntKind.u64.wrap ((i:Int)+j)=(i:Int)+j:=wrap_u64 _ (by omega) (by omega);have eh:((i:Int)+j) / 2=(hh:Int):=by omega
     have ei:IntKind.i64.wrap (hh:Int)=(hh:Int):=IntWalk.i64_in _ (by omega);have ev:IntKind.u64.wrap (hh:Int)=(hh:Int):=wrap_u64 _ (by omega) (by omega);have e7:IntKind.i64.wrap ((hh:Int)+1)=(hh:Int)+1:=IntWalk.i64_in _ (by omega);have hb2:i≤hh∧hh<j:=by omega
     obtain⟨q,hqe⟩:=exE hh;obtain⟨p,hpe⟩:=exE a;obtain⟨A,B,hA,hB,HCC,hQA,hQB,HSW⟩:=hI.two hJ (q:=q) (p:=p) (by have:=hI.1;omega) (by have:=hI.1;omega);have hq1n:(q:Int)<n:=by have:=hI.1;omega
     have hq0n:(p:Int)<n:=by have:=hI.1;omega
     clear hA hB;have HI1:=hidL hI;clear hI;subst hqe hpe;clear hhe;go_upto_region 5 with fail;clear es eu eh;have hw:=au (Below.refl wr.heap.size wr);have hS:=HCC.out _ hw;refine oG hS (fun _=>true) (by kernel_rfl) ?_;generalize wr.drew=Wd at hw hS ⊢;apply ppP 0
     try simp only[pu]
     apply ppP 1
     try simp only[pu]
     apply ppP 2
     try simp only[pu]
     apply ppP 3
     try simp only[pu]
     refine tkM A 4 hS (fun _ h=>h.1) ?_
     try simp only[pu]
     apply ppP 5
     try simp only[pu]
     apply ppP 6
     try simp only[pu]
     apply ppP 7
     try simp only[pu]
     refine tkM B 8 hS (fun _ h=>h.2) ?_
     try simp only[pu]
     obtain⟨cv,hcv⟩:=exE (SK.cf A B);have hcm:=SK.cmp A B Wd hQA.out hQB.out;rw[←hcv] at hcm;have Hcv:=hidL hcv;have Hcm:=hidL hcm;clear hcv hcm;refine ang 9 (fun K hK=>?_);go_simp;refine Hcm.out.mono ?_;clear Hcm;rintro e w5 ⟨rfl,hb5⟩;replace hw:=aa hw hb5 hw.size;replace hS:=HCC.out _ hw;refine hK.out _ _ (fun _ _=>hS) ?_
     try simp only[pu]
     apply ppP 10
     try simp only[pu]
     refine anf ?_ _;have hI5:=HI1.out.below hw;clear HI1 hw hb5 hS HCC HSW hQA hQB Hcv;cases hcw:decide (cv<0) with
     | true =>
      clear hcw;go_wp2;go_roundw
      case rel=>exact⟨q+1,j,zs,by simp,rfl,by go_light;omega,by go_light;omega,hjb,hI5⟩
      case measure=>go_light;simp[intOf];omega
     | false =>
      clear hcw;go_wp2;go_roundw
      case rel=>exact⟨i,q,zs,rfl,rfl,hmi,by go_light;omega,by go_light;omega,hI5⟩
      case measure=>go_light;simp[intOf];omega
    ·have hib:i≤b:=by omega
     have ed:IntKind.i64.wrap ((i:Int)-1)=(i:Int)-1:=IntWalk.i64_in _ (by omega);have HI1:=hidL hI;clear hI;go_wp2_with fail;go_loopw [13] (fun c13 wr=>∃ k:Nat,∃ zs,c13=O k∧a≤k∧qj J base T g cap n w wr zs) (fun c13 _=>i-(intOf c13).toNat)
     case atStart=>exact⟨a,_,rfl,Nat.le_refl _,HI1.out⟩
     case round =>
      clear HI1 zs;obtain⟨k,zs,rfl,hak,hI⟩:=hrel
      by_cases hlt2:(k:Int)<(i:Int)-1
      ·obtain⟨q,hqe⟩:=exE k;obtain⟨p,hpe⟩:=exE (k+1);obtain⟨A,B,hA,hB,HCC,hQA,hQB,HSW⟩:=hI.two hJ (q:=q) (p:=p) (by have:=hI.1;omega) (by have:=hI.1;omega);have hq1n:(q:Int)<n:=by have:=hI.1;omega
       have hq0n:(p:Int)<n:=by have:=hI.1;omega
       clear hA hB;have HI1:=hidL hI;clear hI;have e7:IntKind.i64.wrap ((k:Int)+1)=(p:Int):=by rw[show (k:Int)+1=(p:Int) by omega];exact IntWalk.i64_in _ (by omega)
       have Hpk:=hidL hpe;subst hqe;clear hpe HI1;go_upto_region 11 with fail;have hw:=au (Below.refl wr.heap.size wr);have hS:=HCC.out _ hw;obtain⟨ht1,ht2,hfin⟩:=HSW.out _ hw;have Hfin:=hidL hfin;clear hfin;refine oG hS (fun i=>i != 15&&i != 17) (by kernel_rfl) ?_;generalize wr.drew=Wd at hw hS ht1 ht2 Hfin ⊢;apply ppP 0
       try simp only[pu]
       apply ppP 1
       try simp only[pu]
       apply ppP 2
       try simp only[pu]
       apply ppP 3
       try simp only[pu]
       apply ppP 4
       try simp only[pu]
       apply ppP 5
       try simp only[pu]
       apply ppP 6
       try simp only[pu]
       apply ppP 7
       try simp only[pu]
       apply ppP 8
       try simp only[pu]
       refine tkM B 9 hS (fun _ h=>h.2) ?_
       try simp only[pu]
       apply ppP 10
       try simp only[pu]
       apply ppP 11
       try simp only[pu]
       apply ppP 12
       try simp only[pu]
       refine tkM A 13 hS (fun _ h=>h.1) ?_
       try simp only[pu]
       apply ppP 14
       try simp only[pu]
       refine ang 15 (fun K hK=>?_);refine stM B rfl rfl ht1 rfl rfl ?_;refine hK.out _ _ nay ?_
       try simp only[pu]
       apply ppP 16
       try simp only[pu]
       refine ang 17 (fun K hK=>?_);refine stM A rfl rfl ht2 rfl rfl ?_;refine hK.out _ _ nay ?_
       try simp only[pu]
       refine anf ?_ _;clear ht1 ht2 hS hw;generalize setCells (setCells Wd _ _ _) _ _ _=Wf at Hfin ⊢;go_wp2;go_roundw
       case rel=>exact⟨p,_,rfl,by have:=Hpk.out;go_light;omega,Hfin.out⟩
       case measure=>go_light;have:=Hpk.out;simp[intOf];omega
      ·have HI5:=hidL hI;clear hI;go_wp2_with fail;refine bodyPost_ret (results_none rfl _ _ _) rfl ?_;exact⟨rfl,zs,HI5.out⟩
  ·have em:((m:Int)-a==1)=false:=by simp;omega
   by_cases hbm:b-m=1
   ·--[M2
    have em2:((b:Int)-m==1)=true:=by simp;omega
    go_wp2_with fail;clear e1 e2 em em2;go_loopw [14,15] (fun c10 c11 wr=>∃ i j:Nat,∃ zs,c10=O i∧c11=O j∧a≤i∧i≤j∧j≤m∧qj J base T g cap n w wr zs) (fun c10 c11 _=>(intOf c11).toNat-(intOf c10).toNat)
    case atStart=>exact⟨a,m,xs,rfl,rfl,Nat.le_refl _,by omega,Nat.le_refl _,HI.out⟩
    case round =>
     obtain⟨i,j,zs,rfl,rfl,hmi,hij,hjb,hI⟩:=hrel
     by_cases hlt:i<j
     ·obtain⟨hh,hhe⟩:=exE ((i+j) / 2);have es:IntKind.i64.wrap ((i:Int)+j)=(i:Int)+j:=IntWalk.i64_in _ (by omega);have eu:IntKind.u64.wrap ((i:Int)+j)=(i:Int)+j:=wrap_u64 _ (by omega) (by omega);have eh:((i:Int)+j) / 2=(hh:Int):=by omega
      have ei:IntKind.i64.wrap (hh:Int)=(hh:Int):=IntWalk.i64_in _ (by omega);have ev:IntKind.u64.wrap (hh:Int)=(hh:Int):=wrap_u64 _ (by omega) (by omega);have e7:IntKind.i64.wrap ((hh:Int)+1)=(hh:Int)+1:=IntWalk.i64_in _ (by omega);have hb2:i≤hh∧hh<j:=by omega
      obtain⟨q,hqe⟩:=exE m;obtain⟨p,hpe⟩:=exE hh;obtain⟨A,B,hA,hB,HCC,hQA,hQB,HSW⟩:=hI.two hJ (q:=q) (p:=p) (by have:=hI.1;omega) (by have:=hI.1;omega);have hq1n:(q:Int)<n:=by have:=hI.1;omega
      have hq0n:(p:Int)<n:=by have:=hI.1;omega
      clear hA hB;have HI1:=hidL hI;clear hI;subst hqe hpe;clear hhe;go_upto_region 17 with fail;clear es eu eh;have hw:=au (Below.refl wr.heap.size wr);have hS:=HCC.out _ hw;refine oG hS (fun _=>true) (by kernel_rfl) ?_;generalize wr.drew=Wd at hw hS ⊢;apply ppP 0
      try simp only[pu]
      apply ppP 1
      try simp only[pu]
      apply ppP 2
      try simp only[pu]
      apply ppP 3
      try simp only[pu]
      refine tkM A 4 hS (fun _ h=>h.1) ?_
      try simp only[pu]
      apply ppP 5
      try simp only[pu]
      apply ppP 6
      try simp only[pu]
      apply ppP 7
      try simp only[pu]
      refine tkM B 8 hS (fun _ h=>h.2) ?_
      try simp only[pu]
      obtain⟨cv,hcv⟩:=exE (SK.cf A B);have hcm:=SK.cmp A B Wd hQA.out hQB.out;rw[←hcv] at hcm;have Hcv:=hidL hcv;have Hcm:=hidL hcm;clear hcv hcm;refine ang 9 (fun K hK=>?_);go_simp;refine Hcm.out.mono ?_;clear Hcm;rintro e w5 ⟨rfl,hb5⟩;replace hw:=aa hw hb5 hw.size;replace hS:=HCC.out _ hw;refine hK.out _ _ (fun _ _=>hS) ?_
      try simp only[pu]
      apply ppP 10
      try simp only[pu]
      apply ppP 11
      try simp only[pu]
      refine anf ?_ _;have hI5:=HI1.out.below hw;clear HI1 hw hb5 hS HCC HSW hQA hQB Hcv;cases hcw:decide (cv<0) with
      | true =>
       clear hcw;go_wp2;go_roundw
       case rel=>exact⟨i,p,zs,rfl,rfl,hmi,by go_light;omega,by go_light;omega,hI5⟩
       case measure=>go_light;simp[intOf];omega
      | false =>
       clear hcw;go_wp2;go_roundw
       case rel=>exact⟨p+1,j,zs,by simp,rfl,by go_light;omega,by go_light;omega,hjb,hI5⟩
       case measure=>go_light;simp[intOf];omega
     ·have HI1:=hidL hI;clear hI;go_wp2_with fail;go_loopw [17] (fun c13 wr=>∃ k:Nat,∃ zs,c13=O k∧k≤m∧qj J base T g cap n w wr zs) (fun c13 _=>(intOf c13).toNat)
      case atStart=>exact⟨m,_,rfl,Nat.le_refl _,HI1.out⟩
      case round =>
       clear HI1 zs;obtain⟨k,zs,rfl,hak,hI⟩:=hrel
       by_cases hlt2:i<k
       ·obtain⟨q,hqe⟩:=exE k;obtain⟨p,hpe⟩:=exE (k-1);obtain⟨A,B,hA,hB,HCC,hQA,hQB,HSW⟩:=hI.two hJ (q:=q) (p:=p) (by have:=hI.1;omega) (by have:=hI.1;omega);have hq1n:(q:Int)<n:=by have:=hI.1;omega
        have hq0n:(p:Int)<n:=by have:=hI.1;omega
        clear hA hB;have HI1:=hidL hI;clear hI;have e7:IntKind.i64.wrap ((k:Int)-1)=(p:Int):=by rw[show (k:Int)-1=(p:Int) by omega];exact IntWalk.i64_in _ (by omega)
        have Hpk:=hidL (show p<q∧p≤m by omega);have hki:(i:Int)<k:=by omega
        subst hqe;clear hpe HI1;go_upto_region 23 with fail;have hw:=au (Below.refl wr.heap.size wr);have hS:=HCC.out _ hw;obtain⟨ht1,ht2,hfin⟩:=HSW.out _ hw;have Hfin:=hidL hfin;clear hfin;refine oG hS (fun i=>i != 15&&i != 17) (by kernel_rfl) ?_;generalize wr.drew=Wd at hw hS ht1 ht2 Hfin ⊢;apply ppP 0
        try simp only[pu]
        apply ppP 1
        try simp only[pu]
        apply ppP 2
        try simp only[pu]
        apply ppP 3
        try simp only[pu]
        apply ppP 4
        try simp only[pu]
        apply ppP 5
        try simp only[pu]
        apply ppP 6
        try simp only[pu]
        apply ppP 7
        try simp only[pu]
        apply ppP 8
        try simp only[pu]
        refine tkM B 9 hS (fun _ h=>h.2) ?_
        try simp only[pu]
        apply ppP 10
        try simp only[pu]
        apply ppP 11
        try simp only[pu]
        apply ppP 12
        try simp only[pu]
        refine tkM A 13 hS (fun _ h=>h.1) ?_
        try simp only[pu]
        apply ppP 14
        try simp only[pu]
        refine ang 15 (fun K hK=>?_);refine stM B rfl rfl ht1 rfl rfl ?_;refine hK.out _ _ nay ?_
        try simp only[pu]
        apply ppP 16
        try simp only[pu]
        refine ang 17 (fun K hK=>?_);refine stM A rfl rfl ht2 rfl rfl ?_;refine hK.out _ _ nay ?_
        try simp only[pu]
        refine anf ?_ _;clear ht1 ht2 hS hw;generalize setCells (setCells Wd _ _ _) _ _ _=Wf at Hfin ⊢;go_wp2;go_roundw
        case rel=>exact⟨p,_,rfl,Hpk.out.2,Hfin.out⟩
        case measure=>go_light;have:=Hpk.out;simp[intOf];omega
       ·have HI5:=hidL hI;clear hI;have hki:¬ (i:Int)<k:=by omega
        go_wp2_with fail;refine bodyPost_ret (results_none rfl _ _ _) rfl ?_;exact⟨rfl,zs,HI5.out⟩
   ·--[M3
    have em2:((b:Int)-m==1)=false:=by simp;omega
    obtain⟨hh,hhe⟩:=exE ((a+b) / 2);have es:IntKind.i64.wrap ((a:Int)+b)=(a:Int)+b:=IntWalk.i64_in _ (by omega);have eu:IntKind.u64.wrap ((a:Int)+b)=(a:Int)+b:=wrap_u64 _ (by omega) (by omega);have eh:((a:Int)+b) / 2=(hh:Int):=by omega
    have ei:IntKind.i64.wrap (hh:Int)=(hh:Int):=IntWalk.i64_in _ (by omega);have ev:IntKind.u64.wrap (hh:Int)=(hh:Int):=wrap_u64 _ (by omega) (by omega);obtain⟨nm,hnm⟩:=exE (hh+m);obtain⟨pm,hpm⟩:=exE (nm-1);have ew:IntKind.i64.wrap ((hh:Int)+m)=(nm:Int):=by rw[show (hh:Int)+m=(nm:Int) by omega];exact IntWalk.i64_in _ (by omega)
    have ep:IntKind.i64.wrap ((nm:Int)-1)=(pm:Int):=by rw[show (nm:Int)-1=(pm:Int) by omega];exact IntWalk.i64_in _ (by omega)
    have Hm:=hidL (show hh=(a+b) / 2∧nm=hh+m∧pm=nm-1∧2≤m-a∧2≤b-m∧a<hh∧hh<b by omega);have Hd:=hidL hd;clear hd;clear hhe hnm hpm hma hbm;go_upto_if 140 with fail;clear e1 e2 em em2 es eu eh ei ev;obtain⟨tm,htm⟩:=exE (decide (hh<m));rw[←htm];have Htm:=hidL htm;clear htm;go_cut [20,21] from 141 to 146 (fun c20 c21 wx=>∃ s r:Nat,c20=O s∧c21=O r∧a≤s∧s≤r∧r≤hh∧r≤m∧nm≤b+s∧W=wx)
    case first =>
     cases tm with
     | true =>
      have hmm:hh<m:=by have:=Htm.out;simpa using this.symm
      obtain⟨sb,hsb⟩:∃ x,nm=x+b:=⟨nm-b,by have:=Hm.out;omega⟩;have e1:IntKind.i64.wrap ((nm:Int)-b)=(sb:Int):=by rw[show (nm:Int)-b=(sb:Int) by omega];exact IntWalk.i64_in _ (by have:=Hm.out;omega)
      have Hr:=hidL (show a≤sb∧sb≤hh∧hh≤m∧nm≤b+sb by have:=Hm.out;omega);clear hsb hmm;go_wp2;go_meet
      case rel=>exact⟨sb,hh,rfl,rfl,Hr.out.1,Hr.out.2.1,Nat.le_refl _,Hr.out.2.2.1,Hr.out.2.2.2,rfl⟩
     | false =>
      have hmm:¬ hh<m:=by have:=Htm.out;simpa using this.symm
      have Hr:=hidL (show a≤m∧m≤hh∧nm≤b+a by have:=Hm.out;omega);clear hmm;go_wp2;go_meet
      case rel=>exact⟨a,m,rfl,rfl,Nat.le_refl _,Hr.out.1,Hr.out.2.1,Nat.le_refl _,Hr.out.2.2,rfl⟩
    case rest =>
     obtain⟨s0,r0,rfl,rfl,h1,h2,h3,h4,h5,rfl⟩:=hcut;go_wp2_with fail;clear ew ep;go_loopw [20,21] (fun c20 c21 wr=>∃ s r:Nat,∃ zs,c20=O s∧c21=O r∧a≤s∧s≤r∧r≤hh∧r≤m∧nm≤b+s∧qj J base T g cap n w wr zs) (fun c20 c21 _=>(intOf c21).toNat-(intOf c20).toNat)
     case atStart=>exact⟨s0,r0,xs,rfl,rfl,h1,h2,h3,h4,h5,HI.out⟩
     case round =>
      clear h1 h2 h3 h4 h5;obtain⟨s,r,zs,rfl,rfl,h1,h2,h3,h4,h5,hI⟩:=hrel
      by_cases hlt:s<r
      ·--[C1
       obtain⟨ch,hche⟩:=exE ((s+r) / 2);have hmo:=Hm.out;have es:IntKind.i64.wrap ((s:Int)+r)=(s:Int)+r:=IntWalk.i64_in _ (by omega);have eu:IntKind.u64.wrap ((s:Int)+r)=(s:Int)+r:=wrap_u64 _ (by omega) (by omega);have eh:((s:Int)+r) / 2=(ch:Int):=by omega
       have ei:IntKind.i64.wrap (ch:Int)=(ch:Int):=IntWalk.i64_in _ (by omega);have ev:IntKind.u64.wrap (ch:Int)=(ch:Int):=wrap_u64 _ (by omega) (by omega);have e7:IntKind.i64.wrap ((ch:Int)+1)=(ch:Int)+1:=IntWalk.i64_in _ (by omega);have hb2:s≤ch∧ch<r:=by omega
       obtain⟨q,hqe⟩:=exE (pm-ch);obtain⟨p,hpe⟩:=exE ch;obtain⟨A,B,hA,hB,HCC,hQA,hQB,HSW⟩:=hI.two hJ (q:=q) (p:=p) (by have:=hI.1;omega) (by have:=hI.1;omega);have hq1n:(q:Int)<n:=by have:=hI.1;omega
       have hq0n:(p:Int)<n:=by have:=hI.1;omega
       clear hA hB;have HI1:=hidL hI;clear hI;have e8:IntKind.i64.wrap ((pm:Int)-ch)=(q:Int):=by rw[show (pm:Int)-ch=(q:Int) by omega];exact IntWalk.i64_in _ (by omega)
       subst hpe;clear hche hqe hmo;go_upto_region 35 with fail;clear es eu eh;have hw:=au (Below.refl wr.heap.size wr);have hS:=HCC.out _ hw;refine oG hS (fun _=>true) (by kernel_rfl) ?_;generalize wr.drew=Wd at hw hS ⊢;apply ppP 0
       try simp only[pu]
       apply ppP 1
       try simp only[pu]
       apply ppP 2
       try simp only[pu]
       apply ppP 3
       try simp only[pu]
       apply ppP 4
       try simp only[pu]
       apply ppP 5
       try simp only[pu]
       refine tkM A 6 hS (fun _ h=>h.1) ?_
       try simp only[pu]
       apply ppP 7
       try simp only[pu]
       apply ppP 8
       try simp only[pu]
       apply ppP 9
       try simp only[pu]
       refine tkM B 10 hS (fun _ h=>h.2) ?_
       try simp only[pu]
       obtain⟨cv,hcv⟩:=exE (SK.cf A B);have hcm:=SK.cmp A B Wd hQA.out hQB.out;rw[←hcv] at hcm;have Hcv:=hidL hcv;have Hcm:=hidL hcm;clear hcv hcm;refine ang 11 (fun K hK=>?_);go_simp;refine Hcm.out.mono ?_;clear Hcm;rintro e w5 ⟨rfl,hb5⟩;replace hw:=aa hw hb5 hw.size;replace hS:=HCC.out _ hw;refine hK.out _ _ (fun _ _=>hS) ?_
       try simp only[pu]
       apply ppP 12
       try simp only[pu]
       apply ppP 13
       try simp only[pu]
       refine anf ?_ _;have hI5:=HI1.out.below hw;clear HI1 hw hb5 hS HCC HSW hQA hQB Hcv;cases hcw:decide (cv<0) with
       | true =>
        clear hcw;go_wp2;go_roundw
        case rel=>exact⟨s,p,zs,rfl,rfl,h1,by go_light;omega,by go_light;omega,by go_light;omega,h5,hI5⟩
        case measure=>go_light;simp[intOf];omega
       | false =>
        clear hcw;go_wp2;go_roundw
        case rel=>exact⟨p+1,r,zs,by simp,rfl,by go_light;omega,by go_light;omega,h3,h4,by go_light;omega,hI5⟩
        case measure=>go_light;simp[intOf];omega
      ·--[C2
       have hmo:=Hm.out;obtain⟨en,hen⟩:=exE (nm-s);have ee:IntKind.i64.wrap ((nm:Int)-s)=(en:Int):=by rw[show (nm:Int)-s=(en:Int) by omega];exact IntWalk.i64_in _ (by omega)
       have He:=hidL (show en≤b∧m≤en∧hh≤en∧s≤m∧s≤hh∧a≤s by omega);have HI1:=hidL hI;clear hI;clear hen hmo h1 h2 h3 h4 h5;go_upto_region 39 with fail;clear ee hlt;go_cut [185] from 178 to 185 (fun c wx=>c=.bool (decide (s<m)&&decide (m<en))∧wx=wr)
       case first =>
        by_cases h1:s<m
        ·have e1:decide ((s:Int)<m)=true:=by simp;omega
         have e2:decide (s<m)=true:=by simpa using h1
         go_wp2;go_meet
         case rel=>exact⟨by first | rfl | simp[e2],rfl⟩
        ·have e1:decide ((s:Int)<m)=false:=by simp;omega
         have e2:decide (s<m)=false:=by simpa using h1
         go_wp2;go_meet
         case rel=>exact⟨by first | rfl | simp[e2],rfl⟩
       case rest =>
        obtain⟨rfl,rfl⟩:=hcut;obtain⟨WA,hWA⟩:=exE wc;subst hWA;obtain⟨tw,htw⟩:=exE ((decide (s<m)&&decide (m<en)));rw[←htw];have Htw:=hidL htw;clear htw;go_upto_if 185 with fail;go_cut [] from 185 to 191 (fun wx=>∃ zs,qj J base T g cap n w wx zs)
        case first =>
         cases tw with
         | true =>
          have h12:s<m∧m<en:=by have:=Htw.out;simpa using this.symm
          have hc:=hidL (Hrot.out _ _ _ _ _ w WA zs HI1.out hn s m en h12.1 h12.2 (by have:=He.out;omega));clear h12 HI1;go_wp2_with fail;refine hc.out.mono ?_;rintro e w5 ⟨rfl,ys,hy⟩;have Hy:=hidL hy;clear hy;clear hc;go_wp2;go_meet
          case rel=>exact⟨ys,Hy.out⟩
         | false =>
          go_wp2;go_meet
          case rel=>exact⟨zs,HI1.out⟩
        case rest =>
         clear HI1 Htw zs;obtain⟨zs,hI⟩:=hcut;have HI1:=hidL hI;clear hI;go_upto_region 41 with fail;go_cut [199] from 192 to 199 (fun c wx=>c=.bool (decide (a<s)&&decide (s<hh))∧wx=wc)
         case first =>
          by_cases h1:a<s
          ·have e1:decide ((a:Int)<s)=true:=by simp;omega
           have e2:decide (a<s)=true:=by simpa using h1
           go_wp2;go_meet
           case rel=>exact⟨by first | rfl | simp[e2],rfl⟩
          ·have e1:decide ((a:Int)<s)=false:=by simp;omega
           have e2:decide (a<s)=false:=by simpa using h1
           go_wp2;go_meet
           case rel=>exact⟨by first | rfl | simp[e2],rfl⟩
         case rest =>
          clear tw;obtain⟨rfl,rfl⟩:=hcut;obtain⟨WA,hWA⟩:=exE wc;subst hWA;obtain⟨tw,htw⟩:=exE ((decide (a<s)&&decide (s<hh)));rw[←htw];have Htw:=hidL htw;clear htw;go_upto_if 199 with fail;go_cut [] from 199 to 205 (fun wx=>∃ zs,qj J base T g cap n w wx zs)
          case first =>
           cases tw with
           | true =>
            have h12:a<s∧s<hh:=by have:=Htw.out;simpa using this.symm
            have hc:=hidL (Hih.out _ _ _ _ _ w WA zs HI1.out hn a s hh h12.1 h12.2 (by have:=Hm.out;omega) (by have:=Hm.out;have:=Hd.out;omega));clear h12 HI1;go_wp2_with fail;refine hc.out.mono ?_;rintro e w5 ⟨rfl,ys,hy⟩;have Hy:=hidL hy;clear hy;clear hc;go_wp2;go_meet
            case rel=>exact⟨ys,Hy.out⟩
           | false =>
            go_wp2;go_meet
            case rel=>exact⟨zs,HI1.out⟩
          case rest =>
           clear HI1 Htw zs;obtain⟨zs,hI⟩:=hcut;have HI1:=hidL hI;clear hI;go_upto_region 43 with fail;go_cut [213] from 206 to 213 (fun c wx=>c=.bool (decide (hh<en)&&decide (en<b))∧wx=wc)
           case first =>
            by_cases h1:hh<en
            ·have e1:decide ((hh:Int)<en)=true:=by simp;omega
             have e2:decide (hh<en)=true:=by simpa using h1
             go_wp2;go_meet
             case rel=>exact⟨by first | rfl | simp[e2],rfl⟩
            ·have e1:decide ((hh:Int)<en)=false:=by simp;omega
             have e2:decide (hh<en)=false:=by simpa using h1
             go_wp2;go_meet
             case rel=>exact⟨by first | rfl | simp[e2],rfl⟩
           case rest =>
            clear tw;obtain⟨rfl,rfl⟩:=hcut;obtain⟨WA,hWA⟩:=exE wc;subst hWA;obtain⟨tw,htw⟩:=exE ((decide (hh<en)&&decide (en<b)));rw[←htw];have Htw:=hidL htw;clear htw;cases tw with
            | true =>
             have h12:hh<en∧en<b:=by have:=Htw.out;simpa using this.symm
             have hc:=hidL (Hih.out _ _ _ _ _ w WA zs HI1.out hn hh en b h12.1 h12.2 (by omega) (by have:=Hm.out;have:=Hd.out;omega));clear h12 HI1;go_wp2_with fail;refine hc.out.mono ?_;rintro e w5 ⟨rfl,ys,hy⟩;have Hy:=hidL hy;clear hy;clear hc;go_wp2_with fail;refine bodyPost_end (results_none rfl _ _ _) rfl ?_;exact⟨rfl,ys,Hy.out⟩
            | false =>
             go_wp2_with fail;refine bodyPost_end (results_none rfl _ _ _) rfl ?_;exact⟨rfl,zs,HI1.out⟩
theorem ajL {α:Type}[SK α]{J:List α→Prop}(h:∀ d,MI d J→MI (d+1) J):∀ d,MI d J
 | 0=>fun _ _ _ _ _ _ _ _ _ _ _ _ _ h1 h2 _ h4=>absurd h4 (by omega)
 | d+1=>h d (ajL h d)
end
section
open Go.Proofs.Tryz
open Go.RowKit
attribute [local go_sem ↓] Go.wp_at_zero Go.wp_at_succ
def akw {α:Type}[SK α](_:List α→Prop)(w:World):Prop:=Calls prog (SK.fi α) #[Z0,O 0,O 0,.func (.func (SK.fc α)) #[] #[]] w (Ret w (.tuple #[]))
def alF {α:Type}[SK α](J:List α→Prop):Prop:=∀ w,akw J w∧Calls prog (SK.ft α) #[Z0,O 0,.func (.func (SK.fc α)) #[] #[]] w (Ret w (.tuple #[]))
theorem alW:adO alF:=by
 refine⟨?_,?_,?_⟩
 all_goals as_aux_lemma =>
  intro J hJ w0;have hi:∀ w,akw J w:=by
   intro w;unfold akw;dsimp only[SK.fi,SK.fw,SK.fr,SK.fs,SK.ft,SK.fc]
   first
    | (go_enter func148,ntmps148)
    | (go_enter func135,ntmps135)
    | (go_enter func104,ntmps104)
   go_wp2_with fail;go_loopw [8] (fun i wr=>i=O 1∧wr=w) (fun _ _=>0)
   case atStart=>exact⟨rfl,rfl⟩
   case round =>
    obtain⟨rfl,rfl⟩:=hrel;go_wp2_with fail;refine bodyPost_end (results_none rfl _ _ _) rfl ?_;exact⟨rfl,Below.refl _ _⟩
  refine⟨hi w0,?_⟩;dsimp only[akw,SK.fi,SK.fc] at hi;dsimp only[SK.fi,SK.fw,SK.fr,SK.fs,SK.ft,SK.fc]
  first
   | (go_enter func103,ntmps103)
   | (go_enter func100,ntmps100)
   | (go_enter func71,ntmps71)
  go_wp2_with fail;go_loopw [7,8] (fun c7 c8 wr=>c7=O 0∧c8=O 20∧wr=w0) (fun _ _ _=>0)
  case atStart=>exact⟨rfl,rfl,rfl⟩
  case round =>
   obtain⟨rfl,rfl,rfl⟩:=hrel;go_wp2_with fail;refine(hi _).mono ?_;rintro e w1 ⟨rfl,hb1⟩;clear hi;go_wp2_with fail;go_loopw [6] (fun c6 wr=>c6=O 20∧wr=w1) (fun _ _=>0)
   case atStart=>exact⟨rfl,rfl⟩
   case round =>
    obtain⟨rfl,rfl⟩:=hrel;go_wp2_with fail;refine bodyPost_end (results_none rfl _ _ _) rfl ?_;exact⟨rfl,hb1⟩
def amU {α:Type}[SK α](J:List α→Prop):Prop:=∀ (base:Nat) (T:Nat→Prop) (g cap n:Nat) (w:World) (xs:List α),qj J base T g cap n w w xs→n≤1000000 →
 Calls prog (SK.ft α) #[.slice (some ⟨g,0,none⟩) n cap,O n,.func (.func (SK.fc α)) #[] #[]] w (amI J base T g cap n w (n<20) xs)
theorem st3:adO amU:=by
 refine⟨?_,?_,?_⟩
 all_goals as_aux_lemma =>
  intro J hJ base T g cap n w xs hI hn;have HI:=hidL hI;clear hI;have hins:ait J:=by first | exact ami.1 J hJ | exact ami.2.1 J hJ | exact ami.2.2 J hJ
  have hsym:∀ d,MI d J:=ajL fun d=>by first | exact(amr d).1 J hJ | exact(amr d).2.1 J hJ | exact(amr d).2.2 J hJ
  dsimp only[ait,SK.fi,SK.fc] at hins;dsimp only[MI,SK.fs,SK.fc] at hsym;have Hins:=hidL hins;clear hins;have Hsym:=hidL hsym;clear hsym;dsimp only[SK.fi,SK.fw,SK.fr,SK.fs,SK.ft,SK.fc]
  first
   | (go_enter func103,ntmps103)
   | (go_enter func100,ntmps100)
   | (go_enter func71,ntmps71)
  go_wp2_with fail;go_loopw [7,8] (fun c7 c8 wr=>∃ u v:Nat,∃ zs,c7=O u∧c8=O v∧v=u+20∧u≤n∧Hid (n<20→u=0∧zs=xs)∧qj J base T g cap n w wr zs) (fun c7 _ _=>n-(intOf c7).toNat)
  case atStart=>exact⟨0,20,xs,rfl,rfl,rfl,Nat.zero_le _,(show n<20→_ from fun _=>⟨rfl,rfl⟩),HI.out⟩
  case round =>
   obtain⟨u,v,zs,rfl,rfl,huv,hun,hx,hI⟩:=hrel
   by_cases hlt:v≤n
   ·--[L1
    have hc:=hidL (Hins.out _ _ _ _ _ w wr zs hI hn u v (by omega) (by omega));obtain⟨v2,hv2⟩:=exE (v+20);have e7:IntKind.i64.wrap ((v:Int)+20)=(v2:Int):=by rw[show (v:Int)+20=(v2:Int) by omega];exact IntWalk.i64_in _ (by omega)
    have Hv2:=hidL hv2;clear hv2;have Huv:=hidL huv;clear huv;clear hI hx;go_wp2_with fail;refine hc.out.mono ?_;rintro e w5 ⟨rfl,ys,hy,-⟩;have Hy:=hidL hy;clear hy;clear hc;go_wp2;go_roundw
    case rel=>exact⟨v,v2,ys,rfl,rfl,Hv2.out,hlt,(show n<20→_ from fun h=>absurd h (by have:=Huv.out;omega)),Hy.out⟩
    case measure=>go_light;have:=Huv.out;simp[intOf];omega
   ·--[L2
    have hc:=hidL (Hins.out _ _ _ _ _ w wr zs hI hn u n hun (by omega));clear hI;go_wp2_with fail;refine hc.out.mono ?_;rintro e w5 ⟨rfl,ys,hy,hyx⟩;have Hy:=hidL hy;clear hy;have Hyx:Hid (n<20→ys=bL SK.lt xs):=fun h=>by
     obtain⟨hu,hz⟩:=hx.out h;rw[hyx (by simp[hu]),hz]
    clear hc hyx hx huv hlt hun zs;go_wp2_with fail;go_loopw [6] (fun c6 wr=>∃ bs:Nat,∃ zs,c6=O bs∧20≤bs∧Hid (n<20→zs=bL SK.lt xs)∧qj J base T g cap n w wr zs) (fun c6 _=>n-(intOf c6).toNat)
    case atStart=>exact⟨20,ys,rfl,Nat.le_refl _,Hyx,Hy.out⟩
    case round =>
     clear Hyx Hy ys;obtain⟨bs,zs,rfl,hbs,hx,hI⟩:=hrel;have HI1:=hidL hI;clear hI
     by_cases hlt:bs<n
     ·obtain⟨b2,hb2⟩:=exE (2*bs);have e2:IntKind.i64.wrap (2*(bs:Int))=(b2:Int):=by rw[show 2*(bs:Int)=(b2:Int) by omega];exact IntWalk.i64_in _ (by omega)
      have Hbs:=hidL hbs;clear hbs;have Hb2:=hidL hb2;clear hb2;have Hlt:=hidL hlt;clear hx;go_wp2_with fail;go_loopw [7,8] (fun c7 c8 wr=>∃ u v:Nat,∃ zs,c7=O u∧c8=O v∧v=u+b2∧u≤n∧qj J base T g cap n w wr zs) (fun c7 _ _=>n-(intOf c7).toNat)
      case atStart=>exact⟨0,b2,_,rfl,rfl,(Nat.zero_add _).symm,Nat.zero_le _,HI1.out⟩
      case round =>
       clear HI1 zs;obtain⟨u,v,zs,rfl,rfl,huv,hun,hI⟩:=hrel;obtain⟨um,hum⟩:=exE (u+bs);have e3:IntKind.i64.wrap ((u:Int)+bs)=(um:Int):=by rw[show (u:Int)+bs=(um:Int) by omega];exact IntWalk.i64_in _ (by omega)
       have hbo:=Hbs.out;have hb2o:=Hb2.out
       by_cases hlt2:v≤n
       ·have hc:=hidL (Hsym.out (v-u) _ _ _ _ _ w wr zs hI hn u um v (by omega) (by omega) (by omega) (Nat.le_refl _));obtain⟨v2,hv2⟩:=exE (v+b2);have e7:IntKind.i64.wrap ((v:Int)+b2)=(v2:Int):=by rw[show (v:Int)+b2=(v2:Int) by omega];exact IntWalk.i64_in _ (by omega)
        have Hv2:=hidL hv2;clear hv2;have Huv:=hidL (show v=u+b2∧u<v by omega);clear hI huv hum hbo hb2o;go_wp2_with fail;refine hc.out.mono ?_;rintro e w5 ⟨rfl,ys,hy⟩;have Hy:=hidL hy;clear hy;clear hc;go_wp2;go_roundw
        case rel=>exact⟨v,v2,ys,rfl,rfl,Hv2.out,hlt2,Hy.out⟩
        case measure=>go_light;have:=Huv.out;simp[intOf];omega
       ·have e6:IntKind.i64.wrap ((bs:Int)*2)=(b2:Int):=by rw[show (bs:Int)*2=(b2:Int) by omega];exact IntWalk.i64_in _ (by omega)
        by_cases hmn:um<n
        ·have hc:=hidL (Hsym.out (n-u) _ _ _ _ _ w wr zs hI hn u um n (by omega) hmn (by omega) (Nat.le_refl _));clear hI hum hbo hb2o huv;go_wp2_with fail;refine hc.out.mono ?_;rintro e w5 ⟨rfl,ys,hy⟩;have Hy:=hidL hy;clear hy;clear hc;go_wp2;go_roundw
         case rel=>exact⟨b2,ys,rfl,by have:=Hbs.out;have:=Hb2.out;omega,(show n<20→_ from fun h=>absurd h (by have:=Hbs.out;have:=Hlt.out;omega)),Hy.out⟩
         case measure=>go_light;have:=Hbs.out;have:=Hb2.out;have:=Hlt.out;simp[intOf];omega
        ·have HI1:=hidL hI;clear hI;clear hum hbo hb2o huv;go_wp2;go_roundw
         case rel=>exact⟨b2,zs,rfl,by have:=Hbs.out;have:=Hb2.out;omega,(show n<20→_ from fun h=>absurd h (by have:=Hbs.out;have:=Hlt.out;omega)),HI1.out⟩
         case measure=>go_light;have:=Hbs.out;have:=Hb2.out;have:=Hlt.out;simp[intOf];omega
     ·go_wp2_with fail;refine bodyPost_end (results_none rfl _ _ _) rfl ?_;exact⟨rfl,zs,HI1.out,hx.out⟩
def anu {α:Type}[SK α](J:List α→Prop):Prop:=∀ (base:Nat) (T:Nat→Prop) (v:Value) (xs:List α) (w:World),Own base (SK.te α) (SK.sz α) (dS SK.enc) T w v xs→xs.length≤1000000→J xs →
 Calls prog (SK.fS α) #[v,.func (.func (SK.fc α)) #[] #[]] w (fun e w'=>e=.returned (.tuple #[])∧∃ ys,ys.length=xs.length∧J ys∧Own base (SK.te α) (SK.sz α) (dS SK.enc) T w' v ys∧w.grownBy w' v.ownBlock∧(xs.length<20→ys=bL SK.lt xs))
theorem ss3:adO anu:=by
 refine⟨?_,?_,?_⟩
 all_goals as_aux_lemma =>
  intro J hJ base T v xs w ho hn hq;obtain⟨A,cap,rfl,hlc⟩:=ho.form;cases A with
  | none =>
   obtain rfl:xs=[]:=by
    cases xs with
    | nil=>rfl
    | cons x l =>
     obtain⟨g,hg,_⟩:=ho.qR (by simp);cases hg
   obtain rfl:cap=0:=by
    obtain⟨css,h1,_⟩:=ho;rcases h1.2 with ⟨hv,_⟩ | ⟨_,_,_,hv,_⟩
    ·injection hv
    ·injection hv with hv;cases hv
   have hni:alF J:=by first | exact alW.1 J hJ | exact alW.2.1 J hJ | exact alW.2.2 J hJ
   have hnt:=(hni w).2;dsimp only[SK.ft,SK.fc] at hnt;have HO:=hidL ho;clear ho;have HQ:=hidL hq;clear hq;clear hni;dsimp only[SK.fS,SK.fc]
   first
    | (go_enter func69,ntmps69)
    | (go_enter func66,ntmps66)
    | (go_enter func33,ntmps33)
   go_wp2_with fail;refine hnt.mono ?_;rintro e w1 ⟨rfl,hb1⟩;clear hnt;go_wp2_with fail;refine bodyPost_end (results_none rfl _ _ _) rfl ?_;exact⟨rfl,[],rfl,HQ.out,HO.out.below (dS.fair _) hb1,aK hb1 _,fun _=>rfl⟩
  | some ad =>
   obtain⟨g,rfl⟩:∃ g,ad=⟨g,0,none⟩:=by
    obtain⟨css,h1,_⟩:=ho;rcases h1.2 with ⟨hv,_⟩ | ⟨g,_,_,hv,_⟩
    ·injection hv with hv;cases hv
    ·injection hv with hv;injection hv with hv;exact⟨g,hv⟩
   have hsa:amU J:=by first | exact st3.1 J hJ | exact st3.2.1 J hJ | exact st3.2.2 J hJ
   have hst:=hsa base T g cap xs.length w xs (qj.start ho hq) hn;dsimp only[SK.ft,SK.fc] at hst;have Hst:=hidL hst;clear hst;clear ho hq hsa;dsimp only[SK.fS,SK.fc]
   first
    | (go_enter func69,ntmps69)
    | (go_enter func66,ntmps66)
    | (go_enter func33,ntmps33)
   go_wp2_with fail;refine Hst.out.mono ?_;rintro e w1 ⟨rfl,ys,h,h5⟩;have H:=hidL h;clear h;have H5:=hidL h5;clear h5;clear Hst;go_wp2_with fail;refine bodyPost_end (results_none rfl _ _ _) rfl ?_;exact⟨rfl,ys,H.out.1,H.out.2.1,H.out.2.2.1,H.out.2.2.2,H5.out⟩
theorem xW (base:Nat)(T:Nat→Prop)(v:Value)(xs:List dC)(w:World)(ho:Own base 57 2 aO T w v xs)(hn:xs.length≤1000000)(hq:∀ x∈xs,jw x) :
  Calls prog 69 #[v,(Value.func (Fn.func 70) #[] #[])] w (fun e w'=>e=.returned (.tuple #[])∧∃ ys,ys.length=xs.length∧(∀ y∈ys,jw y)∧Own base 57 2 aO T w' v ys∧w.grownBy w' v.ownBlock∧(xs.length<20→ys=bL nO xs)):=ss3.1 (fun ys=>∀ y∈ys,jw y) ⟨fun h1 h0 h=>Jd h1 h0 h,fun h=>h⟩ base T v xs w ho hn hq
theorem wz (base:Nat)(T:Nat→Prop)(v:Value)(xs:List ay)(w:World)(ho:Own base 55 5 aH T w v xs)(hn:xs.length≤1000000)(hq:∀ x∈xs,gN x) :
  Calls prog 66 #[v,(Value.func (Fn.func 67) #[] #[])] w (fun e w'=>e=.returned (.tuple #[])∧∃ ys,ys.length=xs.length∧(∀ y∈ys,gN y)∧Own base 55 5 aH T w' v ys∧w.grownBy w' v.ownBlock∧(xs.length<20→ys=bL kK xs)):=ss3.2.1 (fun ys=>∀ y∈ys,gN y) ⟨fun h1 h0 h=>Jd h1 h0 h,fun h=>h⟩ base T v xs w ho hn hq
theorem yL {L:List fF}(base:Nat)(T:Nat→Prop)(v:Value)(xs:List fF)(w:World)(ho:Own base 53 5 bg T w v xs)(hn:xs.length≤1000000)(hq:xs.Perm L) :
  Calls prog 33 #[v,(Value.func (Fn.func 34) #[] #[])] w (fun e w'=>e=.returned (.tuple #[])∧∃ ys,ys.length=xs.length∧(ys.Perm L)∧Own base 53 5 bg T w' v ys∧w.grownBy w' v.ownBlock∧(xs.length<20→ys=bL uf xs)):=ss3.2.2 (fun ys=>ys.Perm L) ⟨fun h1 h0 h=>swap_perm h1 h0 h,fun _ _ _=>trivial⟩ base T v xs w ho hn hq
end
end Go.Proofs.YtknnhpkjgnkcdaaGreatDoor
