/- Walks and plain laws. -/
import Derived.Test.YtknnhpkjgnkcdaaGreatDoorTopQuiet
import Derived.Test.YtknnhpkjgnkcdaaGreatDoorRdA
set_option linter.all false
set_option maxRecDepth 100000
set_option maxHeartbeats 8000000
namespace Go.Proofs.YtknnhpkjgnkcdaaGreatDoor
section
open Go.Proofs.Tryz
theorem Pv:∀ {l:List (List aX)},iR l=[]→∀ f∈l,f=[]
 | [],_,_,h=>by cases h
 | x::l,hl,f,h=>by
  unfold iR at hl;split at hl
  ·rename_i hx
   rcases List.mem_cons.1 h with rfl | h
   ·exact hx
   ·exact Pv hl f h
  ·rename_i hx;exact absurd hl hx
theorem acx {l:List fD}{n p:Int}(h:ji l n p=[]){c a:Int}(hc:c∈dZ l n)(ha:a∈dZ l c)(hne:a≠c){t:ax}(ht:t∈ib l a) :
  (p % 2=1→(dH (ib l a) (ib l c) t.name).1=[])∧(2≤p→(dH (ib l c) (ib l a) t.name).1=[]):=by
 unfold ji at h
 by_cases hp:p=0
 ·subst hp;exact⟨fun h=>by simp at h,fun h=>by omega⟩
 rw[if_neg hp] at h;have hm:∀ f∈abB l p c a t,f=[]:=fun f hf=>Pv h f (List.mem_flatMap.2 ⟨c,hc,List.mem_flatMap.2 ⟨a,ha,by
  unfold Ga;rw[if_neg hne];exact List.mem_flatMap.2 ⟨t,ht,hf⟩⟩⟩)
 unfold abB at hm;exact⟨fun h1=>hm _ (by rw[if_pos h1];simp),fun h2=>hm _ (by rw[if_pos h2];simp)⟩
theorem agG {b:av}{name:ByteArray}(h:dW b name=false):∃ t∈b,t.name=name:=by
 unfold dW at h;cases hf:aM b name with
 | none=>rw[hf] at h;cases h
 | some t =>
  unfold aM at hf;exact⟨t,List.mem_of_find?_eq_some hf,by simpa using List.find?_some hf⟩
theorem amu {s:cK}(hk:iL s){x:gD}(hx:x∈s.rs){c a:Int}(hc:c∈dZ s.cs x.commit)(ha:a∈dZ s.cs c)(hne:a≠c){name:ByteArray}(h1:dW (ib s.cs a) name=false) :
  (x.policy % 2=1→(dH (ib s.cs a) (ib s.cs c) name).1=[])∧(2≤x.policy→(dH (ib s.cs c) (ib s.cs a) name).1=[]):=by
 obtain⟨t,ht,rfl⟩:=agG h1;exact acx (hk x hx) hc ha hne ht
open Go.RowKit
theorem topReads_any (S S':Nat→Prop)(va:Value)(l:List mG)(name:ByteArray)(vs:List Value)(v:aj)(w:World)(hl:RSl 6 72 Tn S w [va] l)(hfit:∀ a∈l,IM a)(hG:qW w.heap.size w)(hv:aA S' w vs v)(hok:okV v)(hd:aD v≤4611686018427387904)(hc:aW v≤4611686018427387904) :
  Calls prog 5 #[va,.string name,.agg vs.toArray] w (Ret w (.bool true)):=by
 obtain⟨A,cap,rfl,-,-⟩:=hl.form;obtain⟨hro,hkp,-⟩:=anI l;have HV:=hidL (fun W (h:Below w.heap.size w W)=>aA.fair.below hv h);have HD:=hidL (And.intro hok (And.intro hd hc));obtain⟨V,hV⟩:=exE v;rw[←hV] at HV HD;obtain⟨kind,n,s,ids,vl⟩:=v;obtain⟨I1,d1,I2,d2,rfl,-,-⟩:=hv.parts;have x1:=Box.new w 65 (VV kind n s I1 ids d1 I2 vl d2);have hx:=(Below.here w).alloc (Nat.le_refl _) (.cells (VV kind n s I1 ids d1 I2 vl d2).toArray 65);have HL:=hidL ((RSl.fair Tn.fair).below hl hx);have HG:=hidL ((hG.below hx).more hx.size);have HF:=hidL hfit;have HO:=hidL hro;have HK:=hidL hkp;clear hl hfit hG hv hok hd hc hro hkp hV;go_enter func5,ntmps5;have hs1:=hx.size;go_upto_region 1 with fail;generalize hB:w.heap.size=B at x1 ⊢;rw[hB] at hx HV hs1;generalize World.alloc w _=W1 at x1 hx hs1 HL HG ⊢;have HP:=hidL (anB HL.out HF.out HG.out);clear HL HF;go_wp2_with fail;refine HP.out.mono ?_;rintro e w2 ⟨g,row,S1,rfl,hr,-,hb2⟩;obtain⟨st,hst⟩:=exE (aeF l);rw[←hst] at hr HO HK;clear hst HP;obtain⟨cs,rs,ac⟩:=st;obtain⟨m1,m2,-,-⟩:=HO.out.most;dsimp only at m1 m2;have HC:=hidL (yM hr (show cs.length≤1000 by omega));have HR:=hidL (fun W (k:Below w2.heap.size w2 W)=>Au (hr.below k) (show rs.length≤1000 by omega));clear hr;go_wp2_with fail;refine HC.out.mono ?_;rintro e w3 ⟨vc,rfl,hvc,hb3⟩;obtain⟨AC,kC,rfl,-,-⟩:=hvc.form;have HC3:=hidL hvc;dsimp only at HC3 ⊢;clear hvc HC;go_wp2_with fail;refine(HR.out _ hb3).mono ?_;rintro e w4 ⟨vr,rfl,hvr,hb4⟩;obtain⟨AR,kR,rfl,-,-⟩:=hvr.form;have HR4:=hidL hvr;have hb34:=hb4;have hb14:=aa hb2 (aa hb3 hb4 hb3.size) hb2.size;clear hvr HR hb2 hb3 hb4;have hW0:Below B w w4:=aa hx hb14 hs1;have X1:=hidL x1;clear x1 hs1;go_wp2_with fail;go_loopw [28] (fun i wr=>∃ k:Nat,i=O k∧k≤rs.length∧Below w4.heap.size w4 wr) (fun i _=>rs.length-(intOf i).toNat)
 case atStart=>exact⟨0,rfl,Nat.zero_le _,Below.refl _ _⟩
 case round =>
  obtain⟨k,rfl,hk,hb⟩:=hrel
  by_cases hlt:k<rs.length
  ·obtain⟨gr,o,rfl,hS,hgr⟩:=HR4.out.base (by omega);have hc:=(HR4.out.flat (enc:=aN) hlt).keep (az.of_below hb) hS;have hym:=List.getElem_mem hlt;obtain⟨y,hy⟩:=exE (rs[k]);rw[←hy] at hc hym;have Hym:=hidL hym;have hyo:=HO.out.refs _ hym;obtain⟨xn,xc,p⟩:=y;dsimp only at hyo;have Hp:=hidL (show p=0∨p=1∨p=2∨p=3 by omega);have q0:=hc.a0 rfl;have q1:=hc.at_ 1 rfl;have q2:=hc.at_ 2 rfl;have hgl2:=Nat.lt_of_lt_of_le hgr hb.size;have hki:(k:Int)<rs.length:=by omega
   have z:=Box.new wr 61 [.string xn,O xc,O p];have hbx:=(Below.here wr).alloc (Nat.le_refl _) (.cells [.string xn,O xc,O p].toArray 61);have hb9:=aa hb hbx hb.size;clear hc hy hym hS hyo hbx hb;go_upto_region 8 with fail;generalize wr.heap.size=X at z ⊢;generalize World.alloc wr _=W5 at z hb9 ⊢;have hb39:=aa hb34 hb9 hb34.size;obtain⟨bl,hbl⟩:=exE (dZ cs xc);have Hbl:=hidL hbl;have hbn:bl.length≤cs.length:=by rw[hbl];exact IQ cs xc
   have hcall:=xm _ _ cs xc W5 ((RSl.fair dw.fair).below HC3.out hb39) (by omega);rw[←hbl] at hcall;have Hcall:=hidL hcall;have z1:=z.cell 1;have zl:=z.lt;have Z:=hidL z;clear q0 q1 q2 hgl2 hbl hcall z hb39;go_wp2_with fail;refine Hcall.out.mono ?_;rintro e w6 ⟨v6,rfl,-,hr6,hb6⟩;obtain⟨A6,c6,rfl,-,-⟩:=hr6.form;have H6:=hidL hr6;have Z6:=hidL (Z.out.below hb6 zl);have hb46:=aa hb9 hb6 hb9.size;clear z1 zl hr6 hb6 Hcall Z hb9;go_wp2_with fail;go_loopw [37] (fun i wi=>∃ j:Nat,i=O j∧j≤bl.length∧Below w6.heap.size w6 wi) (fun i _=>bl.length-(intOf i).toNat)
   case atStart=>exact⟨0,rfl,Nat.zero_le _,Below.refl _ _⟩
   case round =>
    obtain⟨j,rfl,hj,hb⟩:=hrel
    by_cases hlt2:j<bl.length
    ·obtain⟨gb,ob,rfl,hS,hgb⟩:=H6.out.base (by omega);have hc:=(H6.out.flat (enc:=fun x:Int=>[O x]) hlt2).keep (az.of_below hb) hS;have hcm:=List.getElem_mem hlt2;obtain⟨c,hce⟩:=exE (bl[j]);rw[←hce] at hc hcm;rw[Hbl.out] at hcm;have Hcm:=hidL hcm;have q0:LL wr gb (ob+j) (O c):=by have:=hc.at_ 0 rfl;simpa using this
     have hgl:=Nat.lt_of_lt_of_le hgb hb.size;have hji:(j:Int)<bl.length:=by omega
     obtain⟨al,hal⟩:=exE (dZ cs c);have Hal:=hidL hal;have han:al.length≤cs.length:=by rw[hal];exact IQ cs c
     have hcb:=xL hcm;have hb4r:=aa hb46 hb hb46.size;have hcall:=xm _ _ cs c wr ((RSl.fair dw.fair).below HC3.out (aa hb34 hb4r hb34.size)) (by omega);rw[←hal] at hcall;have Hcall:=hidL hcall;clear hc hce hal hcall hcm;go_wp2_with fail;clear q0 hgl;refine Hcall.out.mono ?_;rintro e w7 ⟨v7,rfl,-,hr7,hb7⟩;obtain⟨A7,c7,rfl,-,-⟩:=hr7.form;have H7:=hidL hr7;have hb67:=aa hb hb7 hb.size;have hb47:=aa hb4r hb7 hb4r.size;clear hr7 hb7 Hcall hb hb4r;go_wp2_with fail;go_loopw [45] (fun i wi=>∃ q:Nat,i=O q∧q≤al.length∧Below w7.heap.size w7 wi) (fun i _=>al.length-(intOf i).toNat)
     case atStart=>exact⟨0,rfl,Nat.zero_le _,Below.refl _ _⟩
     case round =>
      obtain⟨q,rfl,hq,hb⟩:=hrel
      by_cases hlt3:q<al.length
      ·obtain⟨ga,oa,rfl,hS,hga⟩:=H7.out.base (by omega);have hc:=(H7.out.flat (enc:=fun x:Int=>[O x]) hlt3).keep (az.of_below hb) hS;have ham:=List.getElem_mem hlt3;obtain⟨a,hae⟩:=exE (al[q]);rw[←hae] at hc ham;rw[Hal.out] at ham;have q0:LL wr ga (oa+q) (O a):=by have:=hc.at_ 0 rfl;simpa using this
       have hgl:=Nat.lt_of_lt_of_le hga hb.size;have hqi:(q:Int)<al.length:=by omega
       have hab:=xL ham;have Ham:=hidL ham;clear hc hae ham hS
       by_cases hac:a=c
       ·have hd1:(a==c)=true:=by simpa using hac
        clear hac;go_wp2;go_roundw
        case rel=>exact⟨q+1,by go_num,by omega,hb⟩
        case measure=>simp[intOf];omega
       ·have hd1:(a==c)=false:=by simpa using hac
        have hkf:=fun h=>amu HK.out Hym.out (Hcm.out) (Ham.out) hac (name:=name) h
        obtain⟨ka,rfl⟩:∃ k:Nat,a=k:=⟨a.toNat,by omega⟩;obtain⟨kc,rfl⟩:∃ k:Nat,c=k:=⟨c.toNat,by omega⟩;have hka:ka<cs.length:=by omega
        have hkc:kc<cs.length:=by omega
        have hkai:(ka:Int)<cs.length:=by omega
        have hkci:(kc:Int)<cs.length:=by omega
        dsimp only at hkf;have eba:ib cs (ka:Int)=cs[ka].book:=sw rfl hka;have ebc:ib cs (kc:Int)=cs[kc].book:=sw rfl hkc;have hga2:aB (ib cs (ka:Int))=0:=by rw[eba];exact HO.out.books _ (List.getElem_mem hka)
        have hgc2:aB (ib cs (kc:Int))=0:=by rw[ebc];exact HO.out.books _ (List.getElem_mem hkc)
        obtain⟨gL,oL,rfl,hSL,hgL⟩:=HC3.out.base (by omega);obtain⟨es,-,hrc,hlca⟩:=HC3.out.lies hka;obtain⟨P1,p1,P2,p2,rfl,hbka,-⟩:=hrc.parts;obtain⟨es,-,hrd,hlcc⟩:=HC3.out.lies hkc;obtain⟨Q1,q1,Q2,q2,rfl,hbkc,-⟩:=hrd.parts;rw[←eba] at hbka hlca;rw[←ebc] at hbkc hlcc;have hb4r:=aa hb47 hb hb47.size;have hb3r:=aa hb34 hb4r hb34.size;have hb0r:=aa hW0 hb4r (hB ▸ hW0.size);have hb6r:=aa hb67 hb hb67.size;have HS:Hid (∀ W,Below wr.heap.size wr W→(fun W'=>LL W' X 2 (O p)∧LL W' gL (oL+ka*2) (.slice P1 (ib cs ka).length p1)∧LL W' gL (oL+kc*2) (.slice Q1 (ib cs kc).length q1)∧LL W' B 0 (O kind)∧LL W' B 1 (O n)∧LL W' B 2 (.string s)∧LL W' B 3 (.slice I1 ids.length d1)∧LL W' B 4 (.slice I2 vl.length d2)) W):=fun W h=>by
         have h3:=aa hb3r h hb3r.size;have ha:=(hlca.keep (az.of_below h3) hSL).at_ 0 rfl;have hc:=(hlcc.keep (az.of_below h3) hSL).at_ 0 rfl;have h6:=aa hb6r h hb6r.size;obtain⟨b0,b1,b2,b3,b4⟩:=(X1.out.below (aa hb14 (aa hb4r h hb4r.size) hb14.size) X1.out.lt).five;exact⟨(Z6.out.below h6 Z6.out.lt).cell 2,by simpa using ha,by simpa using hc,b0,b1,b2,b3,b4⟩
        have HC1:Hid (p % 2=1→∀ W,Below wr.heap.size wr W→Calls prog 18 #[.agg #[.slice P1 (ib cs ka).length p1],.agg #[.slice Q1 (ib cs kc).length q1],.string name,.agg (VV kind n s I1 ids d1 I2 vl d2).toArray] W (Ret W (.bool true))):=fun hp W h=>by
         have h3:=aa hb3r h hb3r.size;have h0:=aa hb0r h (hB ▸ hb0r.size);exact readsT_any _ S' _ _ _ _ name _ V W ((RSl.fair ah.fair).below hbka h3) ((RSl.fair ah.fair).below hbkc h3) (HV.out W h0) (HG.out W (aa hb14 (aa hb4r h hb4r.size) hb14.size)).1 (iA hga2) (iA hgc2) HD.out.1 HD.out.2.1 HD.out.2.2 hgc2 (fun h _=>(hkf h).1 hp)
        have HC2:Hid (2≤p→∀ W,Below wr.heap.size wr W→Calls prog 18 #[.agg #[.slice Q1 (ib cs kc).length q1],.agg #[.slice P1 (ib cs ka).length p1],.string name,.agg (VV kind n s I1 ids d1 I2 vl d2).toArray] W (Ret W (.bool true))):=fun hp W h=>by
         have h3:=aa hb3r h hb3r.size;have h0:=aa hb0r h (hB ▸ hb0r.size);exact readsT_any _ S' _ _ _ _ name _ V W ((RSl.fair ah.fair).below hbkc h3) ((RSl.fair ah.fair).below hbka h3) (HV.out W h0) (HG.out W (aa hb14 (aa hb4r h hb4r.size) hb14.size)).1 (iA hgc2) (iA hga2) HD.out.1 HD.out.2.1 HD.out.2.2 hga2 (fun _ h=>(hkf h).2 hp)
        clear hac hkf hka hkc eba ebc hga2 hgc2 hSL hgL hrc hrd hlca hlcc hbka hbkc hb4r hb3r hb0r hb6r hab hcb;go_upto_region 15 with fail;have hB:=au (Below.here wr);have hS:=HS.out _ hB;refine aJ (fun W'=>LL W' X 2 (O p)∧LL W' gL (oL+ka*2) (.slice P1 (ib cs ka).length p1)∧LL W' gL (oL+kc*2) (.slice Q1 (ib cs kc).length q1)∧LL W' B 0 (O kind)∧LL W' B 1 (O n)∧LL W' B 2 (.string s)∧LL W' B 3 (.slice I1 ids.length d1)∧LL W' B 4 (.slice I2 vl.length d2)) (fun _=>true) (by kernel_rfl) ?_;clear q0 hgl hd1;generalize wr.drew=U at hS hB ⊢;rcases Hp.out with rfl | rfl | rfl | rfl
        ·apply ppP 0
         try simp only[pu]
         apply tkP 1 hS;apply ppP 2
         try simp only[pu]
         rw[show bits BinOp.and IntKind.i64 0 1=0 from rfl];apply ppP 3;apply ppP 4;apply skP 5 hS;apply skP 6 hS;apply skP 7 hS;apply skP 8 hS;apply skP 9 hS;apply skP 10 hS;apply skP 11 hS;apply skP 12 hS;apply skP 13 hS;apply skP 14 hS;apply skP 15 hS;apply skP 16 hS;apply skP 17 hS;apply skP 18 hS;apply ppP 19;apply ppP 20;apply ppP 21;apply tkP 22 hS;apply ppP 23
         try simp only[pu]
         rw[show bits BinOp.and IntKind.i64 0 2=0 from rfl];apply ppP 24;apply ppP 25;apply skP 26 hS;apply skP 27 hS;apply skP 28 hS;apply skP 29 hS;apply skP 30 hS;apply skP 31 hS;apply skP 32 hS;apply skP 33 hS;apply skP 34 hS;apply skP 35 hS;apply skP 36 hS;apply skP 37 hS;apply skP 38 hS;apply skP 39 hS;apply ppP 40;apply ppP 41
         try simp only[pu]
         refine anf ?_ _;clear hS;go_wp2;go_roundw
         case rel=>exact⟨q+1,by go_num,by omega,aa hb hB hb.size⟩
         case measure=>simp[intOf];omega
        ·apply ppP 0
         try simp only[pu]
         apply tkP 1 hS;apply ppP 2
         try simp only[pu]
         rw[show bits BinOp.and IntKind.i64 1 1=1 from rfl];apply ppP 3;apply ppP 4;apply ppP 5;apply ppP 6;apply ppP 7;apply ppP 8;apply tkP 9 hS;apply ppP 10;apply ppP 11;apply ppP 12;apply ppP 13;apply tkP 14 hS;apply ppP 15;apply tkP 16 hS
         try simp only[pu]
         refine ang 17 (fun K hK=>?_);go_simp;refine(HC1.out (by decide) _ hB).mono ?_;rintro e w5 ⟨rfl,hb5⟩;replace hB:=aa hB hb5 hB.size;replace hS:=HS.out _ hB;clear hb5;refine hK.out _ _ (fun _ _=>hS) ?_
         try simp only[pu]
         apply ppP 18;apply ppP 19;apply ppP 20;apply ppP 21;apply tkP 22 hS;apply ppP 23
         try simp only[pu]
         rw[show bits BinOp.and IntKind.i64 1 2=0 from rfl];apply ppP 24;apply ppP 25;apply skP 26 hS;apply skP 27 hS;apply skP 28 hS;apply skP 29 hS;apply skP 30 hS;apply skP 31 hS;apply skP 32 hS;apply skP 33 hS;apply skP 34 hS;apply skP 35 hS;apply skP 36 hS;apply skP 37 hS;apply skP 38 hS;apply skP 39 hS;apply ppP 40;apply ppP 41
         try simp only[pu]
         refine anf ?_ _;clear hS;go_wp2;go_roundw
         case rel=>exact⟨q+1,by go_num,by omega,aa hb hB hb.size⟩
         case measure=>simp[intOf];omega
        ·apply ppP 0
         try simp only[pu]
         apply tkP 1 hS;apply ppP 2
         try simp only[pu]
         rw[show bits BinOp.and IntKind.i64 2 1=0 from rfl];apply ppP 3;apply ppP 4;apply skP 5 hS;apply skP 6 hS;apply skP 7 hS;apply skP 8 hS;apply skP 9 hS;apply skP 10 hS;apply skP 11 hS;apply skP 12 hS;apply skP 13 hS;apply skP 14 hS;apply skP 15 hS;apply skP 16 hS;apply skP 17 hS;apply skP 18 hS;apply ppP 19;apply ppP 20;apply ppP 21;apply tkP 22 hS;apply ppP 23
         try simp only[pu]
         rw[show bits BinOp.and IntKind.i64 2 2=2 from rfl];apply ppP 24;apply ppP 25;apply ppP 26;apply ppP 27;apply ppP 28;apply ppP 29;apply tkP 30 hS;apply ppP 31;apply ppP 32;apply ppP 33;apply ppP 34;apply tkP 35 hS;apply ppP 36;apply tkP 37 hS
         try simp only[pu]
         refine ang 38 (fun K hK=>?_);go_simp;refine(HC2.out (by decide) _ hB).mono ?_;rintro e w5 ⟨rfl,hb5⟩;replace hB:=aa hB hb5 hB.size;replace hS:=HS.out _ hB;clear hb5;refine hK.out _ _ (fun _ _=>hS) ?_
         try simp only[pu]
         apply ppP 39;apply ppP 40;apply ppP 41
         try simp only[pu]
         refine anf ?_ _;clear hS;go_wp2;go_roundw
         case rel=>exact⟨q+1,by go_num,by omega,aa hb hB hb.size⟩
         case measure=>simp[intOf];omega
        ·apply ppP 0
         try simp only[pu]
         apply tkP 1 hS;apply ppP 2
         try simp only[pu]
         rw[show bits BinOp.and IntKind.i64 3 1=1 from rfl];apply ppP 3;apply ppP 4;apply ppP 5;apply ppP 6;apply ppP 7;apply ppP 8;apply tkP 9 hS;apply ppP 10;apply ppP 11;apply ppP 12;apply ppP 13;apply tkP 14 hS;apply ppP 15;apply tkP 16 hS
         try simp only[pu]
         refine ang 17 (fun K hK=>?_);go_simp;refine(HC1.out (by decide) _ hB).mono ?_;rintro e w5 ⟨rfl,hb5⟩;replace hB:=aa hB hb5 hB.size;replace hS:=HS.out _ hB;clear hb5;refine hK.out _ _ (fun _ _=>hS) ?_
         try simp only[pu]
         apply ppP 18;apply ppP 19;apply ppP 20;apply ppP 21;apply tkP 22 hS;apply ppP 23
         try simp only[pu]
         rw[show bits BinOp.and IntKind.i64 3 2=2 from rfl];apply ppP 24;apply ppP 25;apply ppP 26;apply ppP 27;apply ppP 28;apply ppP 29;apply tkP 30 hS;apply ppP 31;apply ppP 32;apply ppP 33;apply ppP 34;apply tkP 35 hS;apply ppP 36;apply tkP 37 hS
         try simp only[pu]
         refine ang 38 (fun K hK=>?_);go_simp;refine(HC2.out (by decide) _ hB).mono ?_;rintro e w5 ⟨rfl,hb5⟩;replace hB:=aa hB hb5 hB.size;replace hS:=HS.out _ hB;clear hb5;refine hK.out _ _ (fun _ _=>hS) ?_
         try simp only[pu]
         apply ppP 39;apply ppP 40;apply ppP 41
         try simp only[pu]
         refine anf ?_ _;clear hS;go_wp2;go_roundw
         case rel=>exact⟨q+1,by go_num,by omega,aa hb hB hb.size⟩
         case measure=>simp[intOf];omega
      ·have hqi:¬ (q:Int)<al.length:=by omega
       have hbz:=aa hb67 hb hb67.size;go_wp2;go_roundw
       case rel=>exact⟨j+1,by go_num,by omega,hbz⟩
       case measure=>simp[intOf];omega
    ·have hji:¬ (j:Int)<bl.length:=by omega
     have hbz:=aa hb46 hb hb46.size;go_wp2;go_roundw
     case rel=>exact⟨k+1,by go_num,by omega,hbz⟩
     case measure=>simp[intOf];omega
  ·have hki:¬ (k:Int)<rs.length:=by omega
   have hbz:=aa hW0 hb (hB ▸ hW0.size);go_wp2;go_ret;exact⟨rfl,hB ▸ hbz⟩
open Go.ChangeShapes Go.WideShapes Go.Deep
theorem zN {α:Type}{P:Program}{t e sz by_:Nat}{R:Rel α}{H:Type}{enc:TypeId × Value→H}{W:World}{spare:Nat→Bool}{held:Bool}{fuel:Nat}{cs:List Value}{x:DataW H × List MemPlace}{Q:DataW H→α→Prop}
  (ht:P.underlying t=some (.slice e)) (hsz:P.cellsOf e=sz) (h0:0<sz) (hby:P.bytesOf e=by_)
  (hw:∀ n∈DataW.weights P t x.1,n≤reachBytes) (hx:DataW.trod enc P W 0 spare held fuel t cs=some x)
  (ho:∀ (n:Nat) (cs':List Value) (x':DataW H × List MemPlace),(∃ elems sp,x.1=.slice elems sp∧x'.1∈elems)→(∀ q∈DataW.weights P e x'.1,q≤reachBytes)→DataW.trod enc P W 0 spare held n e cs'=some x'→∃ y,cs'.length=sz∧R (Old W) W cs' y∧Q x'.1 y) :
  ∃ ys,cs.length=1∧RSl sz by_ R (Old W) W cs ys∧((x.1=.nil∧ys=[])∨∃ elems sp,x.1=.slice elems sp∧elems.length=ys.length∧∀ i (h:i<elems.length) (h':i<ys.length),Q elems[i] ys[i]):=by
 rcases open_slice ht hx with ⟨rfl,rfl⟩ | ⟨a,len,cap,m,n,D,Pl,rfl,hb,hl,hm,hmm,rfl,hi⟩
 ·exact⟨[],rfl,RSl.dJ,.inl ⟨rfl,rfl⟩⟩
 ·subst hsz;have hlm:len≤m:=by rw[hmm];split <;> omega
  have key:∀ i,i<len→∃ y cs',W.cells? 0 (a.add (i*P.cellsOf e)) (P.cellsOf e)=some cs'∧cs'.length=P.cellsOf e∧R (Old W) W cs' y∧Q (D i) y:=by
   intro i hil;obtain⟨cs',hc,htr⟩:=hi i (by omega);have hin:D i∈(List.range len).map D:=List.mem_map.2 ⟨i,by simpa using hil,rfl⟩;obtain⟨y,h1,h2,h3⟩:=ho n cs' (D i,Pl i) ⟨_,_,rfl,hin⟩ (fun q hq=>hw q (by
    simp only[DataW.weights,ht,List.mem_cons,List.mem_append];exact .inr (.inl (Nl hin hq)))) htr
   exact⟨y,cs',hc,h1,h2,h3⟩
  let f:Nat→Option α:=fun i=>if h:i<len then some (key i h).choose else none
  have hf:∀ i (h:i<len),f i=some (key i h).choose:=fun i h=>by simp only[f];rw[dif_pos h]
  let ys:List α:=(List.range len).pmap (fun i (h:i<len)=>(key i h).choose) (fun i hi=>by simpa using hi)
  have hyl:ys.length=len:=by simp[ys]
  have hys:∀ i (h:i<len),ys[i]? = some (key i h).choose:=by
   intro i h;simp[ys,List.getElem?_pmap,List.getElem?_range h]
  refine⟨ys,rfl,⟨some a,cap,by rw[hyl],by omega,?_,?_⟩,.inr ⟨_,_,rfl,by simp[hyl],fun i h h'=>?_⟩⟩
  ·have:=hw ((((List.range len).map D).length+((List.range (m-len)).map fun j=>D (len+j)).length)*P.bytesOf e) (by simp[DataW.weights,ht]);simp only[List.length_map,List.length_range,reachBytes] at this;rw[hyl,←hby];refine Nat.le_trans (Nat.mul_le_mul_right _ ?_) this;omega
  ·intro k y hk;have hkl:k<len:=by
    rcases Nat.lt_or_ge k len with h | h
    ·exact h
    ·rw[List.getElem?_eq_none (by omega)] at hk;cases hk
   rw[hys k hkl] at hk;injection hk with hk
   subst hk;obtain⟨cs',hc,hcl,hr,_⟩:=(key k hkl).choose_spec;obtain⟨_,_,hat⟩:=World.cells?_some hc;have hab:a.spot=none:=by
    obtain⟨cs0,hc0,hcl0,_,_⟩:=(key 0 (by omega)).choose_spec;obtain⟨_,_,hat0⟩:=World.cells?_some hc0;have h00:=hat0 0 h0;rw[List.getElem?_eq_getElem (by omega)] at h00;have h1:=World.cell?_spot h00;simpa[Addr.add] using h1
   have h00:=hat 0 h0;rw[List.getElem?_eq_getElem (by omega)] at h00;obtain⟨g,o,sp⟩:=a;simp only at hab;subst hab;have hadd:∀ o n,(⟨g,o,none⟩:Addr).add n=⟨g,o+n,none⟩:=by intro o n;unfold Addr.add;split <;> simp_all
   refine⟨g,o,cs',rfl,?_,?_,hcl,hr,fun j hj=>?_⟩
   ·have:=World.block_lt_of_cell? W _ h00;simpa[Old,hadd] using this
   ·have:=World.block_lt_of_cell? W _ h00;simpa[hadd] using this
   ·have:=hat j (by omega);rw[hadd,hadd] at this;exact this
  ·have hil:i<len:=by simpa using h
   have h1:=hys i hil;rw[List.getElem?_eq_getElem h'] at h1;injection h1 with h1
   rw[h1];have:((List.range len).map D)[i]=D i:=by simp
   rw[this];obtain⟨_,_,_,_,hg⟩:=(key i hil).choose_spec;exact hg
end
section
open Go.Proofs.Tryz
open Go.RowKit Go.ChangeShapes Go.WideShapes Go.ChangeAt
theorem Ab {H:Type}{d:DataW H}:∀ {l:List (DataW H)},d∈l→Rows.uptoBulk d≤Rows.uptoBulkAll l
 | [],h=>by cases h
 | x::r,h=>by
  rw[Rows.uptoBulkAll];rcases List.mem_cons.1 h with rfl | h
  ·omega
  ·have:=Ab h;omega
theorem Zo {H:Type}:∀ (elems:List (DataW H)) (l:List aj),elems.length=l.length→(∀ i (h:i<elems.length) (h':i<l.length),okV l[i]∧aD l[i]≤Rows.uptoBulk elems[i]∧aW l[i]≤Rows.uptoBulk elems[i]) →
  okL l∧gJ l≤Rows.uptoBulkAll elems∧cO l≤Rows.uptoBulkAll elems
 | [],[],_,_=>⟨trivial,by simp[gJ],by simp[cO]⟩
 | [],x::l,h,_=>by simp at h
 | e::es,[],h,_=>by simp at h
 | e::es,x::l,h,hq=>by
  obtain⟨q1,q2,q3⟩:=hq 0 (by simp) (by simp);obtain⟨r1,r2,r3⟩:=Zo es l (by simpa using h) (fun i h1 h2=>by
   have:=hq (i+1) (by simpa using h1) (by simpa using h2);simpa using this)
  simp only[List.getElem_cons_zero] at q1 q2 q3;refine⟨by rw[okL];exact⟨q1,r1⟩,?_,?_⟩
  ·rw[gJ,Rows.uptoBulkAll];omega
  ·rw[cO,Rows.uptoBulkAll];omega
theorem rH {H:Type}{enc:TypeId × Value→H}{W:World}{spare:Nat→Bool}{held:Bool}:∀ (n fuel:Nat) (cs:List Value) (x:DataW H × List MemPlace),Rows.uptoBulk x.1≤n→(∀ q∈DataW.weights prog 65 x.1,q≤reachBytes) →
  DataW.trod enc prog W 0 spare held fuel 65 cs=some x→∃ v,cs.length=5∧aA (Old W) W cs v∧(okV v∧aD v≤Rows.uptoBulk x.1∧aW v≤Rows.uptoBulk x.1)
 | 0,fuel,cs,x,hn,hw,h=>by
  obtain⟨ys,m,_,rfl,_⟩:=DataW.trod_struct underlying65 h;simp[Rows.uptoBulk] at hn
 | n+1,fuel,cs,x,hn,hw,h=>by
  have hs:=underlying65;have hl:=iU hs h;have hc:prog.cellsOf 65=5:=by kernel_rfl
  rw[hc] at hl;obtain⟨a,_,ha,_⟩:=bU hs hw h 0 rfl (by kernel_rfl) (jk underlying3);obtain⟨b,_,hb,_⟩:=bU hs hw h 1 rfl (by kernel_rfl) (jk underlying3);obtain⟨c,_,hcc,hcs⟩:=bU hs hw h 2 rfl (by kernel_rfl) (mH underlying9);obtain⟨d,_,hd,_⟩:=bU hs hw h 3 rfl (by kernel_rfl) (nA (sz:=1) (by_:=8) underlying42 (by kernel_rfl) (by decide) (by kernel_rfl) (jk underlying3));obtain⟨ys,m,_,rfl,_,hyl,hat⟩:=DataW.trod_struct hs h;have h4:=hat 4 _ rfl;have hil:4<ys.length:=by rw[hyl];decide
  rw[List.getElem?_eq_getElem hil] at h4;have hbk:Rows.uptoBulk ys[4].1+1≤Rows.uptoBulk (.agg (ys.map (·.1))):=by
   rw[Rows.uptoBulk];have:=Ab (List.mem_map.2 ⟨ys[4],List.getElem_mem hil,rfl⟩:ys[4].1∈ys.map (·.1));omega
  obtain⟨l,_,hll,hq⟩:=zN (sz:=5) (by_:=80) (R:=aA) (Q:=fun d v=>okV v∧aD v≤Rows.uptoBulk d∧aW v≤Rows.uptoBulk d) underlying63 (by kernel_rfl) (by decide) (by kernel_rfl) (fun q hq=>hw q (by
   simp only[DataW.weights,hs];refine DataW.weights_mem_each (j:=4) (t:=63) (d:=ys[4].1) ?_ ?_ q hq
   ·rfl
   ·rw[List.getElem?_map,List.getElem?_eq_getElem hil];rfl)) h4 (fun k cs' x' ⟨elems,sp,he,hm⟩ hw' ht'=>by
   refine rH n k cs' x' ?_ hw' ht';have h1:=Ab hm;rw[he,Rows.uptoBulk] at hbk;have:Rows.uptoBulk (.agg (ys.map (·.1)))≤n+1:=hn;omega)
  have hfin:okL l∧gJ l+1≤Rows.uptoBulk (.agg (ys.map (·.1)))∧cO l+1≤Rows.uptoBulk (.agg (ys.map (·.1))):=by
   rcases hq with ⟨_,rfl⟩ | ⟨elems,sp,he,hlen,hq⟩
   ·refine⟨trivial,?_,?_⟩
    ·simp[gJ,Rows.uptoBulk]
    ·simp[cO,Rows.uptoBulk]
   ·obtain⟨r1,r2,r3⟩:=Zo elems l hlen hq;rw[he,Rows.uptoBulk] at hbk;exact⟨r1,by omega,by omega⟩
  match cs,hl with
  | [c0,c1,c2,c3,c4],_ =>
   have e0:c0=O a:=by simpa[aQ,dS] using ha
   have e1:c1=O b:=by simpa[aQ,dS] using hb
   have e2:c2=.string c:=by simpa[lQ,dS] using hcc
   subst e0 e1 e2;refine⟨.mk a b c d l,rfl,aA.mk hd hll,?_,?_,?_⟩
   ·rw[okV];exact⟨hcs,hfin.1⟩
   ·rw[aD];exact hfin.2.1
   ·rw[aW];exact hfin.2.2
end
end Go.Proofs.YtknnhpkjgnkcdaaGreatDoor
