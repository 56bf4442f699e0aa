/- Walks and plain laws. -/
import Derived.Test.YtknnhpkjgnkcdaaGreatDoorTyped
set_option linter.all false
set_option maxRecDepth 100000
set_option maxHeartbeats 8000000
namespace Go.Proofs.YtknnhpkjgnkcdaaGreatDoor
section
open Go.Proofs.Tryz
open Go.RowKit
attribute [local go_sem ↓] Go.wp_at_zero Go.wp_at_succ
def nY (b:av)(t:ax)(ids:List Int)(l:List aj)(n:Nat):List (Int × aj):=(t.fields.take n).flatMap (eQ b 4 ids l)
theorem Ep {b:av}{t:ax}{ids:List Int}{l:List aj}{n:Nat}(h:n<t.fields.length):nY b t ids l (n+1)=nY b t ids l n++eQ b 4 ids l t.fields[n]:=by
 unfold nY;rw[List.take_succ_eq_append_getElem h,List.flatMap_append];simp
theorem acU (b:av)(ids:List Int)(l:List aj)(f:ay):(eQ b 4 ids l f).length≤1+ids.length:=by
 unfold eQ;rw[List.length_append];have:=List.length_filter_le (fun p:Int × aj=>decide (p.1=f.id)) (ids.zip l);rw[List.length_zip] at this;split <;> simp <;> omega
theorem IK (b:av)(t:ax)(ids:List Int)(l:List aj):∀ n,n≤t.fields.length→(nY b t ids l n).length≤n*(1+ids.length)
 | 0,_=>by simp[nY]
 | n+1,h=>by
  rw[Ep (by go_light;omega),List.length_append];have:=IK b t ids l n (by go_light;omega);have:=acU b ids l t.fields[n];rw[Nat.add_mul];omega
theorem Pi {W:World}{a:Act}{g:Nat}{c0 c1 c2 c3 c4:Value}(hb:Box W g 65 [c0,c1,c2,c3,c4])(h4:a.tmps.getD 6 undef=.pointer (some ⟨g,0,none⟩)) :
  (results f123 a.tmps).run prog W=.ok (.agg #[c0,c1,c2,c3,c4]) W:=by
 obtain⟨e0,e1,e2,e3,e4⟩:=hb.five;simp only[Array.getD_eq_getD_getElem?] at h4;simp[results,results123,go_sem,h4,e0,e1,e2,e3,e4]
theorem acG (S S':Nat→Prop)(vb:Value)(b:av)(hg:aB b=0)(cst cs:List Value)(t:ax)(kind nn:Int)(s:ByteArray)(ids:List Int)(l:List aj)(w:World)(hb0:RSl 5 96 ah S w [vb] b)(ht:ah S w cst t)(hm:dU b t)
  (hr:aA S' w cs (.mk kind nn s ids l)) (hll:ids.length=l.length) (hlm:ids.length≤100000) :
  Calls prog 123 #[.agg #[vb],.agg cst.toArray,.agg cs.toArray] w (UY S' w (kz b 4 t ids l)):=by
 obtain⟨A,cap,rfl,hlc,hlb⟩:=hb0.form;obtain⟨A1,k1,A2,k2,A3,k3,rfl,hf,hgn,hi⟩:=ht.parts;obtain⟨I1,d1,I2,d2,rfl,hri,hrl⟩:=hr.parts;have h5:t.fields.length≤5:=hm.1;have HB:=hidL hb0;have HF:=hidL hf;have HI:=hidL hri;have HL:=hidL hrl;have HM:=hidL hm;have HG:=hidL hg;have Hll:=hidL hll;have hlen:∀ n,n≤t.fields.length→(nY b t ids l n).length≤500005:=fun n hn=>by
  have:=IK b t ids l n hn;have:n*(1+ids.length)≤5*100001:=Nat.mul_le_mul (by go_light;omega) (by go_light;omega);omega
 have HLen:=hidL hlen;obtain⟨x1,x2,x3,x4,x5⟩:=rQ w [.slice A b.length cap] (TT t A1 k1 A2 k2 A3 k3) (VV kind nn s I1 ids d1 I2 l d2) [O 0,O 0,E0,Z0,Z0] 38 53 65 65;clear hb0 ht hf hgn hi hr hri hrl hm hll hlen;go_enter func123,ntmps123;go_wp2_with fail;go_loopw [16] (fun i wr=>∃ (n:Nat) (vi vl:Value),i=O n∧n≤t.fields.length∧cZ (fun y=>w.heap.size+1+1+1+1+1≤y∨(S' y∧y<w.heap.size)) (w.heap.size+1+1+1+1+1) wr (w.heap.size+1+1+1+1) vi vl ((nY b t ids l n).map (·.1)) ((nY b t ids l n).map (·.2)) ∧
   Box wr (w.heap.size+1+1+1+1) 65 [O 2,O 0,E0,vi,vl]∧Box wr (w.heap.size+1+1+1) 65 [O 0,O 0,E0,Z0,Z0]∧Box wr (w.heap.size+1+1) 65 (VV kind nn s I1 ids d1 I2 l d2)∧Box wr w.heap.size 38 [.slice A b.length cap]∧Below w.heap.size w wr) (fun i _=>t.fields.length-(intOf i).toNat)
 case atStart =>
  have x6:Box (((((w.alloc (.cells #[.slice A b.length cap] 38)).alloc (.cells (TT t A1 k1 A2 k2 A3 k3).toArray 53)).alloc (.cells (VV kind nn s I1 ids d1 I2 l d2).toArray 65)).alloc (.cells [O 0,O 0,E0,Z0,Z0].toArray 65)).alloc (.cells #[O 2,O 0,E0,Z0,Z0] 65)) (w.heap.size+1+1+1+1) 65 [O 2,O 0,E0,Z0,Z0]:=by
   have:=Box.Cq x5 65 [O 2,O 0,E0,Z0,Z0];simpa using this
  exact⟨0,Z0,Z0,rfl,by go_light;omega,cZ.new _ _ _ _ (by go_light;omega) (by simp),x6,x4.alloc _,x3.alloc _,x1.alloc _,x5.alloc x5.size _⟩
 case round =>
  obtain⟨n,vi,vl,rfl,hn,hro,zG,zR,zV,zB,hb⟩:=hrel;clear x1 x2 x3 x4 x5
  by_cases hlt:n<t.fields.length
  ·obtain⟨g,o,rfl,hS0,hgw⟩:=HF.out.base (by go_light;omega);have hc:=(HF.out.flat (enc:=aI) hlt).keep (az.of_below hb) hS0;have hfp:iC b t.fields[n]:=bC HM.out (List.getElem_mem hlt);have hen:yE b 4 t.fields[n]:=oz HG.out HM.out (List.getElem_mem hlt);have hsucc:=Ep (b:=b) (t:=t) (ids:=ids) (l:=l) hlt;have hl1:=HLen.out n (by go_light;omega);have hl2:=HLen.out (n+1) (by go_light;omega);obtain⟨f0,hxe⟩:=exE (t.fields[n]);rw[←hxe] at hc hfp hen hsucc;obtain⟨fid,fname,ftype,fkind,frule⟩:=f0;have q0:=hc.a0 rfl;have q1:=hc.at_ 1 rfl;have q2:=hc.at_ 2 rfl;have q3:=hc.at_ 3 rfl;have q4:=hc.at_ 4 rfl;have hgl:g<wr.heap.size:=Nat.lt_of_lt_of_le hgw hb.size;obtain⟨P0,hP0⟩:=exE (nY b t ids l n);rw[←hP0] at hro hl1 hsucc;have hsucc2:Hid (nY b t ids l (n+1)=P0++((if frule=1∧dV ids fid=false then [(fid,aL b 4 ⟨fid,fname,ftype,fkind,frule⟩)] else [])++(ids.zip l).filter (fun p=>decide (p.1=fid)))):=hsucc;rw[hsucc2.out] at hl2;have Hfp:=hidL hfp;have Hen:=hidL hen;have hl2a:P0.length+((if frule=1∧dV ids fid=false then [(fid,aL b 4 ⟨fid,fname,ftype,fkind,frule⟩)] else []):List (Int × aj)).length+((ids.zip l).filter (fun p=>decide (p.1=fid))).length≤500005:=by
    simpa[List.length_append,Nat.add_assoc] using hl2
   clear hc hxe hfp hen hsucc hP0 hl2;have Hl2:=hidL hl2a;clear hl2a;have hw:=hb.alloc hb.size (.cells (FF fid fname ftype fkind frule).toArray 55);have hR:=hro.alloc (.cells (FF fid fname ftype fkind frule).toArray 55);have zX:Box (wr.alloc (.cells (FF fid fname ftype fkind frule).toArray 55)) wr.heap.size 55 (FF fid fname ftype fkind frule):=Box.new wr _ _;replace zG:=zG.alloc (.cells (FF fid fname ftype fkind frule).toArray 55);replace zR:=zR.alloc (.cells (FF fid fname ftype fkind frule).toArray 55);replace zV:=zV.alloc (.cells (FF fid fname ftype fkind frule).toArray 55);replace zB:=zB.alloc (.cells (FF fid fname ftype fkind frule).toArray 55);have hXG:(w.heap.size+1+1+1+1)<wr.heap.size:=by go_light;have:=hro.hb;omega
   have v3:(wr.alloc (.cells (FF fid fname ftype fkind frule).toArray 55)).cell? ⟨w.heap.size+1+1,3,none⟩=some (.slice I1 ids.length d1):=zV.cell 3;have hlv:=zV.lt;have HIa:=hidL ((RSl.fair aQ.fair).below HI.out hw);obtain⟨hh,hhe⟩:=exE (dV ids fid);have hcall:=fun W (h:RSl 1 8 aQ S' W [.slice I1 ids.length d1] ids)=>OI S' _ ids fid W h
   rw[←hhe] at hcall hsucc2 Hl2;have Hcall:=hidL hcall;clear hcall hhe hro hb
   by_cases hput:frule=1∧hh=false
   case' pos =>
    obtain⟨hr1,rfl⟩:=hput;have hrb:(frule==1)=true:=by simpa using hr1
    have hsucc3:Hid (nY b t ids l (n+1)=(P0++[(fid,aL b 4 ⟨fid,fname,ftype,fkind,frule⟩)])++(ids.zip l).filter (fun p=>decide (p.1=fid))):=by
     show _=_;rw[hsucc2.out,if_pos ⟨hr1,rfl⟩,List.append_assoc]
    have hl3:=Hl2.out;rw[if_pos ⟨hr1,rfl⟩] at hl3;have Hl3:=hidL hl3;clear hr1 hsucc2 Hl2 hl3;go_wp2_with fail;refine(Hcall.out _ HIa.out).mono ?_;rintro e w' ⟨rfl,rfl⟩;go_wp2_with fail;have hl3:=Hl3.out;obtain⟨⟨lk,ln,lt,li,ll⟩,hlf⟩:∃ x,x=aL b 4 ⟨fid,fname,ftype,fkind,frule⟩:=⟨_,rfl⟩;have hlo:=fun W (h:RSl 5 96 ah S W [.slice A b.length cap] b)=>yJ S _ b HG.out 4 ⟨fid,fname,ftype,fkind,frule⟩ W h Hfp.out Hen.out
    rw[←hlf] at hlo hsucc3;have Hlo:=hidL hlo;have hP0:P0.length≤500005:=by go_light;omega
    clear hlo hl3 hlf hrb q0 q1 q2 q3 q4 v3 hlv;generalize hWW:wr.alloc (.cells (FF fid fname ftype fkind frule).toArray 55)=W0 at *;have hXl:wr.heap.size<W0.heap.size:=zX.lt;generalize hXX:wr.heap.size=X at *;clear hWW hXX;have HSK:Hid (∀ W',Box W' (w.heap.size+1+1+1+1) 65 [O 2,O 0,E0,vi,vl]→Box W' X 55 (FF fid fname ftype fkind frule)→Box W' (w.heap.size+1+1) 65 (VV kind nn s I1 ids d1 I2 l d2)→Box W' w.heap.size 38 [.slice A b.length cap]→Below w.heap.size w W'→(fun W'=>(LL W' (w.heap.size+1+1+1+1) 3 vi∧LL W' (w.heap.size+1+1+1+1) 4 vl)∧(LL W' X 0 (O fid)∧LL W' X 1 (.string fname)∧LL W' X 2 (.string ftype)∧LL W' X 3 (O fkind)∧LL W' X 4 (O frule))∧LL W' w.heap.size 0 (.slice A b.length cap)) W') :=
     fun W' h1 h2 _ h4 _=>⟨⟨h1.cell 3,h1.cell 4⟩,h2.five,h4.cell 0⟩
    replace hR:=hR.drew;replace zG:=zG.drew;replace zR:=zR.drew;replace zV:=zV.drew;replace zB:=zB.drew;replace zX:=zX.drew;replace hw:=au hw;have hS:=trivial;replace hS:=HSK.out _ zG zX zV zB hw;refine aY (fun W'=>(LL W' (w.heap.size+1+1+1+1) 3 vi∧LL W' (w.heap.size+1+1+1+1) 4 vl)∧(LL W' X 0 (O fid)∧LL W' X 1 (.string fname)∧LL W' X 2 (.string ftype)∧LL W' X 3 (O fkind)∧LL W' X 4 (O frule))∧LL W' w.heap.size 0 (.slice A b.length cap)) 14 (by kernel_rfl) ?_;apply tkL 0 hS;apply tkL 1 hS;apply tkL 2 hS;apply tkL 3 hS;apply tkL 6 hS;apply tkL 7 hS;apply tkL 8 hS;apply tkL 9 hS
    try simp only[pu]
    refine anq 4 (fun K hK=>?_);go_simp;have hZ1:=Box.Cq hw 3 [O fid]
    try simp only[World.size_alloc] at hZ1
    replace hR:=hR.alloc (.cells #[O fid] 3);replace zG:=zG.alloc (.cells #[O fid] 3);replace zR:=zR.alloc (.cells #[O fid] 3);replace zV:=zV.alloc (.cells #[O fid] 3);replace zB:=zB.alloc (.cells #[O fid] 3);replace zX:=zX.alloc (.cells #[O fid] 3)
    (first | (replace hZ2:=hZ2.alloc (.cells #[O fid] 3)) | skip)
    replace hw:=hw.alloc hw.size (.cells #[O fid] 3);replace hS:=HSK.out _ zG zX zV zB hw;refine hK.out _ _ (fun _=>hS) ?_
    try simp only[pu]
    refine anq 5 (fun K hK=>?_);refine dM _ rfl (.tmp 32) (.tmp 35) rfl qh aQ.fair rfl rfl hR.ids (Src.one (es:=[O fid]) (y:=fid) rfl (gI.bK rfl) rfl hZ1.lies) (NoT.lt _) (by go_light;simp;omega) hR.hb ?_;intro v1 wk1 ho1 hg1 hv1;have hR':=hR.Fh ho1 hg1 hv1;replace zG:=zG.fU hR.ids (by first | exact .inl (by go_light;omega) | exact .inr (by decide)) hg1;replace zR:=zR.fU hR.ids (by first | exact .inl (by go_light;omega) | exact .inr (by decide)) hg1;replace zV:=zV.fU hR.ids (by first | exact .inl (by go_light;omega) | exact .inr (by decide)) hg1;replace zB:=zB.fU hR.ids (by first | exact .inl (by go_light;omega) | exact .inr (by decide)) hg1;replace zX:=zX.fU hR.ids (by first | exact .inl (by go_light;omega) | exact .inr (by decide)) hg1
    (first | (replace hZ2:=hZ2.fU hR.ids (.inr (by decide)) hg1) | skip)
    replace hw:=below_grown hw hg1 hw.size (fun g' h=>by go_light;have:=(hR.ilt h).1;omega);replace hR:=hR';clear hR';replace hS:=HSK.out _ zG zX zV zB hw;refine hK.out _ _ (fun _=>hS) ?_
    try simp only[pu]
    apply tkL 13 hS
    try simp only[pu]
    have hR1:=hR;refine anq 10 (fun K hK=>?_);go_simp;refine(Hlo.out _ ((RSl.fair ah.fair).below HB.out hw)).mono ?_;rintro e w3 ⟨cs3,rfl,hr3,hb3⟩;obtain⟨B1,e1,B2,e2,rfl,-,-⟩:=hr3.parts;replace hR:=hR.below hb3;replace zG:=zG.below hb3 zG.lt;replace zR:=zR.below hb3 zR.lt;replace zV:=zV.below hb3 zV.lt;replace zB:=zB.below hb3 zB.lt;replace zX:=zX.below hb3 zX.lt;replace hw:=aa hw hb3 hw.size;replace hS:=HSK.out _ zG zX zV zB hw;refine hK.out _ _ (fun _=>hS) ?_
    try simp only[pu]
    refine anq 11 (fun K hK=>?_);go_simp;have hZ2:=Box.Cq hw 65 (VV lk ln lt B1 li e1 B2 ll e2)
    try simp only[World.size_alloc] at hZ2
    replace hR:=hR.alloc (.cells (VV lk ln lt B1 li e1 B2 ll e2).toArray 65);replace zG:=zG.alloc (.cells (VV lk ln lt B1 li e1 B2 ll e2).toArray 65);replace zR:=zR.alloc (.cells (VV lk ln lt B1 li e1 B2 ll e2).toArray 65);replace zV:=zV.alloc (.cells (VV lk ln lt B1 li e1 B2 ll e2).toArray 65);replace zB:=zB.alloc (.cells (VV lk ln lt B1 li e1 B2 ll e2).toArray 65);replace zX:=zX.alloc (.cells (VV lk ln lt B1 li e1 B2 ll e2).toArray 65)
    (first | (replace hZ1:=hZ1.alloc (.cells (VV lk ln lt B1 li e1 B2 ll e2).toArray 65)) | skip)
    replace hw:=hw.alloc hw.size (.cells (VV lk ln lt B1 li e1 B2 ll e2).toArray 65);replace hS:=HSK.out _ zG zX zV zB hw;refine hK.out _ _ (fun _=>hS) ?_
    try simp only[pu]
    refine anq 12 (fun K hK=>?_);refine dM _ rfl (.tmp 38) (.tmp 42) rfl nJ aA.fair rfl rfl hR.Tp (Src.one (es:=(VV lk ln lt B1 li e1 B2 ll e2)) (y:=aj.mk lk ln lt li ll) rfl (gI.bK rfl) (hR1.apart (aA.fair.keep hr3 (az.alloc _ _ _)) (fun y hy _=>⟨.inl hy,.inl (Nat.le_trans hR1.hb hy)⟩)) hZ2.lies) (fun _ h=>h.2) (by go_light;simp;omega) hR.hb ?_;intro v5 w5 ho5 hg5 hv5;have hR':=hR.zA ho5 hg5 hv5;replace zG:=zG.fU hR.l (by first | exact .inl (by go_light;omega) | exact .inr (by decide)) hg5;replace zR:=zR.fU hR.l (by first | exact .inl (by go_light;omega) | exact .inr (by decide)) hg5;replace zV:=zV.fU hR.l (by first | exact .inl (by go_light;omega) | exact .inr (by decide)) hg5;replace zB:=zB.fU hR.l (by first | exact .inl (by go_light;omega) | exact .inr (by decide)) hg5;replace zX:=zX.fU hR.l (by first | exact .inl (by go_light;omega) | exact .inr (by decide)) hg5;replace hw:=below_grown hw hg5 hw.size (fun g' h=>by go_light;have:=(hR.llt h).1;omega);replace hR:=hR';clear hR';replace hS:=HSK.out _ zG zX zV zB hw;have fz3:=zG.frozen 3;have cz3:=zG.c 3 rfl;have fz4:=zG.frozen 4;have cz4:=zG.c 4 rfl;have lz:=zG.lt;obtain⟨R1,p1,rfl,_⟩:=hR.ids.form;obtain⟨R2,p2,rfl,_⟩:=hR.l.form;refine hK.out _ _ (fun _=>hS) ?_
    try simp only[pu]
    refine anq 14 (fun K hK=>?_);go_simp;refine hK.out _ _ nay ?_
    try simp only[pu]
    refine anq 15 (fun K hK=>?_);go_simp;refine hK.out _ _ nay ?_
    try simp only[pu]
    refine anq 16 (fun K hK=>?_);go_simp;refine hK.out _ _ nay ?_
    try simp only[pu]
    refine ani ?_ _;simp only[List.length_append,List.length_map,List.length_cons,List.length_nil,Nat.zero_add] at hR;replace hR:=(hR.setCell 3 (.slice R1 (P0.length+1) p1)).setCell 4 (.slice R2 (P0.length+1) p2);replace zG:=(zG.gB 3 (.slice R1 (P0.length+1) p1)).gB 4 (.slice R2 (P0.length+1) p2);simp only[List.set_cons_zero,List.set_cons_succ,List.length_append,List.length_map,List.length_cons,List.length_nil,Nat.zero_add] at zG;replace zR:=zR.far (p:=⟨(w.heap.size+1+1+1+1),3,none⟩) (by first | (simp;done) | (simp;omega)) (.slice R1 (P0.length+1) p1);replace zV:=zV.far (p:=⟨(w.heap.size+1+1+1+1),3,none⟩) (by first | (simp;done) | (simp;omega)) (.slice R1 (P0.length+1) p1);replace zB:=zB.far (p:=⟨(w.heap.size+1+1+1+1),3,none⟩) (by first | (simp;done) | (simp;omega)) (.slice R1 (P0.length+1) p1);replace zX:=zX.far (p:=⟨(w.heap.size+1+1+1+1),3,none⟩) (by first | (simp;done) | (simp;omega)) (.slice R1 (P0.length+1) p1);replace zR:=zR.far (p:=⟨(w.heap.size+1+1+1+1),4,none⟩) (by first | (simp;done) | (simp;omega)) (.slice R2 (P0.length+1) p2);replace zV:=zV.far (p:=⟨(w.heap.size+1+1+1+1),4,none⟩) (by first | (simp;done) | (simp;omega)) (.slice R2 (P0.length+1) p2);replace zB:=zB.far (p:=⟨(w.heap.size+1+1+1+1),4,none⟩) (by first | (simp;done) | (simp;omega)) (.slice R2 (P0.length+1) p2);replace zX:=zX.far (p:=⟨(w.heap.size+1+1+1+1),4,none⟩) (by first | (simp;done) | (simp;omega)) (.slice R2 (P0.length+1) p2);replace hw:=(hw.setCell (p:=⟨(w.heap.size+1+1+1+1),3,none⟩) (by first | (simp;done) | (simp;omega)) (.slice R1 (P0.length+1) p1)).setCell (p:=⟨(w.heap.size+1+1+1+1),4,none⟩) (by first | (simp;done) | (simp;omega)) (.slice R2 (P0.length+1) p2);clear hS fz3 cz3 fz4 cz4 lz hg5 hv5 ho5 hg1 hv1 ho1;obtain⟨P1,hP1⟩:=exE (P0++[(fid,aj.mk lk ln lt li ll)]);have hPf:P0.map (·.1)++[fid]=P1.map (·.1):=by rw[hP1];simp
    have hPs:P0.map (·.2)++[aj.mk lk ln lt li ll]=P1.map (·.2):=by rw[hP1];simp
    rw[hPf,hPs] at hR;clear hPf hPs;have Hsucc:=hidL hsucc3.out;rw[←hP1] at Hsucc;have hP1l:P1.length≤500006:=by rw[hP1];simp;omega
    clear hsucc3 hP1 hr3 hb3
   case' neg =>
    have hsucc3:Hid (nY b t ids l (n+1)=P0++(ids.zip l).filter (fun p=>decide (p.1=fid))):=by
     show _=_;rw[hsucc2.out,if_neg hput,List.nil_append]
    have hP1l:P0.length≤500006:=by go_light;have:=Hl2.out;omega
    have Hsucc:=hidL hsucc3.out;obtain⟨P1,hP1⟩:=exE P0;rw[←hP1] at Hsucc hP1l hR
    by_cases hr1:frule=1
    case' pos =>
     have hrb:(frule==1)=true:=by simpa using hr1
     obtain rfl:hh=true:=by
      cases hh with
      | true=>rfl
      | false=>exact absurd ⟨hr1,rfl⟩ hput
     clear hsucc3 hsucc2 Hl2 hput hr1 hP1;go_wp2_with fail;refine(Hcall.out _ HIa.out).mono ?_;rintro e w' ⟨rfl,rfl⟩;go_wp2_with fail;clear q0 q1 q2 q3 q4 v3 hlv;generalize hWW:wr.alloc (.cells (FF fid fname ftype fkind frule).toArray 55)=W0 at *;have hXl:wr.heap.size<W0.heap.size:=zX.lt;generalize hXX:wr.heap.size=X at *;clear hWW hXX
    case' neg =>
     have hrb:(frule==1)=false:=by simpa using hr1
     clear hsucc3 hsucc2 Hl2 hput hr1 hP1;go_wp2_with fail;clear q0 q1 q2 q3 q4 v3 hlv;generalize hWW:wr.alloc (.cells (FF fid fname ftype fkind frule).toArray 55)=W0 at *;have hXl:wr.heap.size<W0.heap.size:=zX.lt;generalize hXX:wr.heap.size=X at *;clear hWW hXX
   all_goals
    have v3:=zV.c 3 rfl;have hlv:=zV.lt;go_wp2_with fail;clear v3 hlv;go_loopw [49] (fun i wi=>∃ (j:Nat) (vi vl:Value),i=O j∧j≤ids.length∧cZ (fun y=>w.heap.size+1+1+1+1+1≤y∨(S' y∧y<w.heap.size)) (w.heap.size+1+1+1+1+1) wi (w.heap.size+1+1+1+1) vi vl ((P1++((ids.zip l).take j).filter (fun p=>decide (p.1=fid))).map (·.1)) ((P1++((ids.zip l).take j).filter (fun p=>decide (p.1=fid))).map (·.2)) ∧
     Box wi (w.heap.size+1+1+1+1) 65 [O 2,O 0,E0,vi,vl]∧Box wi (w.heap.size+1+1+1) 65 [O 0,O 0,E0,Z0,Z0]∧Box wi (w.heap.size+1+1) 65 (VV kind nn s I1 ids d1 I2 l d2)∧Box wi w.heap.size 38 [.slice A b.length cap]∧Box wi X 55 (FF fid fname ftype fkind frule)∧Below w.heap.size w wi) (fun i _=>ids.length-(intOf i).toNat)
    case atStart=>exact⟨0,_,_,rfl,by go_light;omega,by simpa using hR,zG,zR,zV,zB,zX,hw⟩
    case round =>
     clear hR zG zR zV zB zX hw;obtain⟨j,vi,vl,rfl,hj,hR,zG,zR,zV,zB,zX,hw⟩:=hrel
     by_cases hjl:j<ids.length
     ·have hjk:j<l.length:=by go_light;have:=Hll.out;omega
      obtain⟨ig,io,rfl,hSi,hgi⟩:=HI.out.base (by go_light;omega);obtain⟨lg,lo,rfl,hSl,hlgw⟩:=HL.out.base (by go_light;omega);have hci:=(HI.out.flat (enc:=fun x:Int=>[O x]) hjl).keep (az.of_below hw) hSi;obtain⟨es,_,hrx,hlies⟩:=HL.out.lies hjk;have hsel:((ids.zip l).take (j+1)).filter (fun p=>decide (p.1=fid))=((ids.zip l).take j).filter (fun p=>decide (p.1=fid))++(if ids[j]=fid then [(ids[j],l[j])] else []):=by
       rw[List.take_succ_eq_append_getElem (by rw[List.length_zip];omega),List.filter_append]
       congr 1
       by_cases h:ids[j]=fid <;> simp[h]
      obtain⟨idj,hid⟩:=exE (ids[j]);obtain⟨x,hx⟩:=exE (l[j]);rw[←hid] at hci;rw[←hx] at hrx;rw[←hid,←hx] at hsel;obtain⟨xk,xn,xs,xi,xl⟩:=x;obtain⟨E1,f1,E2,f2,rfl,_,_⟩:=hrx.parts;have HXr:=hidL (aA.fair.mono hrx (T:=fun y=>S' y∧y<w.heap.size) (fun y hy hl=>⟨hy,hl⟩));have HLs:=hidL hlies;obtain⟨Sj,hSj⟩:=exE (((ids.zip l).take j).filter (fun p=>decide (p.1=fid)));have hSl2:Sj.length≤100000:=by
       rw[hSj];have:=List.length_filter_le (fun p:Int × aj=>decide (p.1=fid)) ((ids.zip l).take j);rw[List.length_take,List.length_zip] at this;omega
      rw[←hSj] at hR hsel;have q0:LL wr ig (io+j) (O idj):=by have:=hci.at_ 0 rfl;simpa using this
      have hgil:ig<wr.heap.size:=Nat.lt_of_lt_of_le hgi hw.size;have c0:=zX.c 0 rfl;have hlX:=zX.lt;clear hci hrx hlies hid hx hSj
      by_cases heq:idj=fid
      ·have Hsel:Hid (P1++((ids.zip l).take (j+1)).filter (fun p=>decide (p.1=fid))=P1++(Sj++[(idj,aj.mk xk xn xs xi xl)])):=by show _=_;rw[hsel,if_pos heq]
       have heb:(idj==fid)=true:=by simpa using heq
       clear heq hsel;go_wp2_with fail;clear c0 q0;generalize hW9:wr=W9 at *;have HSK2:Hid (∀ W',Box W' (w.heap.size+1+1+1+1) 65 [O 2,O 0,E0,vi,vl]→Box W' X 55 (FF fid fname ftype fkind frule)→Box W' (w.heap.size+1+1) 65 (VV kind nn s (some ⟨ig,io,none⟩) ids d1 (some ⟨lg,lo,none⟩) l d2)→Box W' w.heap.size 38 [.slice A b.length cap]→Below w.heap.size w W'→(fun W'=>(LL W' (w.heap.size+1+1+1+1) 3 vi∧LL W' (w.heap.size+1+1+1+1) 4 vl)∧LL W' (w.heap.size+1+1) 4 (.slice (some ⟨lg,lo,none⟩) l.length d2)∧(LL W' lg (lo+j*5) (O xk)∧LL W' lg (lo+j*5+1) (O xn)∧LL W' lg (lo+j*5+2) (.string xs)∧LL W' lg (lo+j*5+3) (.slice E1 xi.length f1)∧LL W' lg (lo+j*5+4) (.slice E2 xl.length f2))) W') :=
        fun W' h1 _ h3 _ h5=>⟨⟨h1.cell 3,h1.cell 4⟩,h3.cell 4,by
         have hc:=HLs.out.keep (S:=Old w) (az.of_below h5) hlgw;exact⟨hc.at_ 0 rfl,hc.at_ 1 rfl,hc.at_ 2 rfl,hc.at_ 3 rfl,hc.at_ 4 rfl⟩⟩
       have HSK:=HSK2;replace hR:=hR.drew;replace zG:=zG.drew;replace zR:=zR.drew;replace zV:=zV.drew;replace zB:=zB.drew;replace zX:=zX.drew;replace hw:=au hw;have hS:=trivial;replace hS:=HSK.out _ zG zX zV zB hw;refine aY (fun W'=>(LL W' (w.heap.size+1+1+1+1) 3 vi∧LL W' (w.heap.size+1+1+1+1) 4 vl)∧LL W' (w.heap.size+1+1) 4 (.slice (some ⟨lg,lo,none⟩) l.length d2)∧(LL W' lg (lo+j*5) (O xk)∧LL W' lg (lo+j*5+1) (O xn)∧LL W' lg (lo+j*5+2) (.string xs)∧LL W' lg (lo+j*5+3) (.slice E1 xi.length f1)∧LL W' lg (lo+j*5+4) (.slice E2 xl.length f2))) 15 (by kernel_rfl) ?_;apply tkL 0 hS;apply tkL 1 hS;apply tkL 2 hS;apply tkL 5 hS;apply tkL 6 hS;apply tkL 7 hS;apply tkL 8 hS;apply tkL 9 hS;apply tkL 10 hS;apply tkL 11 hS
       try simp only[pu]
       refine jc (i:=3) (j:=12) rfl rfl (by kernel_rfl) (fun K hK=>?_) (fun K hK=>?_)
       rotate_left
       go_simp;have hZ2:=Box.Cq hw 65 (VV xk xn xs E1 xi f1 E2 xl f2)
       try simp only[World.size_alloc] at hZ2
       replace hR:=hR.alloc (.cells (VV xk xn xs E1 xi f1 E2 xl f2).toArray 65);replace zG:=zG.alloc (.cells (VV xk xn xs E1 xi f1 E2 xl f2).toArray 65);replace zR:=zR.alloc (.cells (VV xk xn xs E1 xi f1 E2 xl f2).toArray 65);replace zV:=zV.alloc (.cells (VV xk xn xs E1 xi f1 E2 xl f2).toArray 65);replace zB:=zB.alloc (.cells (VV xk xn xs E1 xi f1 E2 xl f2).toArray 65);replace zX:=zX.alloc (.cells (VV xk xn xs E1 xi f1 E2 xl f2).toArray 65)
       (first | (replace hZ1:=hZ1.alloc (.cells (VV xk xn xs E1 xi f1 E2 xl f2).toArray 65)) | skip)
       replace hw:=hw.alloc hw.size (.cells (VV xk xn xs E1 xi f1 E2 xl f2).toArray 65);replace hS:=HSK.out _ zG zX zV zB hw;refine hK.out _ _ (fun _=>hS) ?_
       try simp only[pu]
       refine anq 3 (fun K hK=>?_)
       all_goals
        go_simp;have hZ1:=Box.Cq hw 3 [O idj]
        try simp only[World.size_alloc] at hZ1
        replace hR:=hR.alloc (.cells #[O idj] 3);replace zG:=zG.alloc (.cells #[O idj] 3);replace zR:=zR.alloc (.cells #[O idj] 3);replace zV:=zV.alloc (.cells #[O idj] 3);replace zB:=zB.alloc (.cells #[O idj] 3);replace zX:=zX.alloc (.cells #[O idj] 3)
        (first | (replace hZ2:=hZ2.alloc (.cells #[O idj] 3)) | skip)
        replace hw:=hw.alloc hw.size (.cells #[O idj] 3);replace hS:=HSK.out _ zG zX zV zB hw;refine hK.out _ _ (fun _=>hS) ?_
        try simp only[pu]
       refine anq 4 (fun K hK=>?_)
       rotate_left
       refine jc (i:=4) (j:=12) rfl rfl (by kernel_rfl) (fun K hK=>?_) (fun K hK=>?_)
       rotate_left
       go_simp;have hZ2:=Box.Cq hw 65 (VV xk xn xs E1 xi f1 E2 xl f2)
       try simp only[World.size_alloc] at hZ2
       replace hR:=hR.alloc (.cells (VV xk xn xs E1 xi f1 E2 xl f2).toArray 65);replace zG:=zG.alloc (.cells (VV xk xn xs E1 xi f1 E2 xl f2).toArray 65);replace zR:=zR.alloc (.cells (VV xk xn xs E1 xi f1 E2 xl f2).toArray 65);replace zV:=zV.alloc (.cells (VV xk xn xs E1 xi f1 E2 xl f2).toArray 65);replace zB:=zB.alloc (.cells (VV xk xn xs E1 xi f1 E2 xl f2).toArray 65);replace zX:=zX.alloc (.cells (VV xk xn xs E1 xi f1 E2 xl f2).toArray 65)
       (first | (replace hZ1:=hZ1.alloc (.cells (VV xk xn xs E1 xi f1 E2 xl f2).toArray 65)) | skip)
       replace hw:=hw.alloc hw.size (.cells (VV xk xn xs E1 xi f1 E2 xl f2).toArray 65);replace hS:=HSK.out _ zG zX zV zB hw;refine hK.out _ _ (fun _=>hS) ?_
       try simp only[pu]
       refine anq 4 (fun K hK=>?_)
       all_goals
        refine dM _ rfl (.tmp 59) (.tmp 61) rfl qh aQ.fair rfl rfl hR.ids (Src.one (es:=[O idj]) (y:=idj) rfl (gI.bK rfl) rfl hZ1.lies) (NoT.lt _) (by go_light;simp;omega) hR.hb ?_;intro v1 wk1 ho1 hg1 hv1;have hR':=hR.Fh ho1 hg1 hv1;replace zG:=zG.fU hR.ids (by first | exact .inl (by go_light;omega) | exact .inr (by decide)) hg1;replace zR:=zR.fU hR.ids (by first | exact .inl (by go_light;omega) | exact .inr (by decide)) hg1;replace zV:=zV.fU hR.ids (by first | exact .inl (by go_light;omega) | exact .inr (by decide)) hg1;replace zB:=zB.fU hR.ids (by first | exact .inl (by go_light;omega) | exact .inr (by decide)) hg1;replace zX:=zX.fU hR.ids (by first | exact .inl (by go_light;omega) | exact .inr (by decide)) hg1
        (first | (replace hZ2:=hZ2.fU hR.ids (.inr (by decide)) hg1) | skip)
        replace hw:=below_grown hw hg1 hw.size (fun g' h=>by go_light;have:=(hR.ilt h).1;omega);replace hR:=hR';clear hR';replace hS:=HSK.out _ zG zX zV zB hw;refine hK.out _ _ (fun _=>hS) ?_
        try simp only[pu]
        apply tkL 14 hS
        try simp only[pu]
       rotate_right
       refine anq 12 (fun K hK=>?_);go_simp;have hZ2:=Box.Cq hw 65 (VV xk xn xs E1 xi f1 E2 xl f2)
       try simp only[World.size_alloc] at hZ2
       replace hR:=hR.alloc (.cells (VV xk xn xs E1 xi f1 E2 xl f2).toArray 65);replace zG:=zG.alloc (.cells (VV xk xn xs E1 xi f1 E2 xl f2).toArray 65);replace zR:=zR.alloc (.cells (VV xk xn xs E1 xi f1 E2 xl f2).toArray 65);replace zV:=zV.alloc (.cells (VV xk xn xs E1 xi f1 E2 xl f2).toArray 65);replace zB:=zB.alloc (.cells (VV xk xn xs E1 xi f1 E2 xl f2).toArray 65);replace zX:=zX.alloc (.cells (VV xk xn xs E1 xi f1 E2 xl f2).toArray 65)
       (first | (replace hZ1:=hZ1.alloc (.cells (VV xk xn xs E1 xi f1 E2 xl f2).toArray 65)) | skip)
       replace hw:=hw.alloc hw.size (.cells (VV xk xn xs E1 xi f1 E2 xl f2).toArray 65);replace hS:=HSK.out _ zG zX zV zB hw;refine hK.out _ _ (fun _=>hS) ?_
       try simp only[pu]
       all_goals
        refine anq 13 (fun K hK=>?_);refine dM _ rfl (.tmp 64) (.tmp 70) rfl nJ aA.fair rfl rfl hR.Tp (Src.one (es:=(VV xk xn xs E1 xi f1 E2 xl f2)) (y:=aj.mk xk xn xs xi xl) rfl (gI.bK rfl) (hR.apart (aA.fair.keep HXr.out (az.of_below hw)) (fun y hy _=>⟨.inr ⟨by go_light;have:=hy.2;omega,by go_light;have:=hy.2;omega⟩,.inr hy⟩)) hZ2.lies) (fun _ h=>h.2) (by go_light;simp;omega) hR.hb ?_;intro v5 w5 ho5 hg5 hv5;have hR':=hR.zA ho5 hg5 hv5;replace zG:=zG.fU hR.l (by first | exact .inl (by go_light;omega) | exact .inr (by decide)) hg5;replace zR:=zR.fU hR.l (by first | exact .inl (by go_light;omega) | exact .inr (by decide)) hg5;replace zV:=zV.fU hR.l (by first | exact .inl (by go_light;omega) | exact .inr (by decide)) hg5;replace zB:=zB.fU hR.l (by first | exact .inl (by go_light;omega) | exact .inr (by decide)) hg5;replace zX:=zX.fU hR.l (by first | exact .inl (by go_light;omega) | exact .inr (by decide)) hg5;replace hw:=below_grown hw hg5 hw.size (fun g' h=>by go_light;have:=(hR.llt h).1;omega);replace hR:=hR';clear hR';replace hS:=HSK.out _ zG zX zV zB hw;have fz3:=zG.frozen 3;have cz3:=zG.c 3 rfl;have fz4:=zG.frozen 4;have cz4:=zG.c 4 rfl;have lz:=zG.lt;obtain⟨R1,p1,rfl,_⟩:=hR.ids.form;obtain⟨R2,p2,rfl,_⟩:=hR.l.form;refine hK.out _ _ (fun _=>hS) ?_
        try simp only[pu]
        refine anq 15 (fun K hK=>?_);go_simp;refine hK.out _ _ nay ?_
        try simp only[pu]
        refine anq 16 (fun K hK=>?_);go_simp;refine hK.out _ _ nay ?_
        try simp only[pu]
        refine anq 17 (fun K hK=>?_);go_simp;refine hK.out _ _ nay ?_
        try simp only[pu]
        refine ani ?_ _;simp only[List.length_append,List.length_map,List.length_cons,List.length_nil,Nat.zero_add] at hR;replace hR:=(hR.setCell 3 (.slice R1 (P1.length+Sj.length+1) p1)).setCell 4 (.slice R2 (P1.length+Sj.length+1) p2);replace zG:=(zG.gB 3 (.slice R1 (P1.length+Sj.length+1) p1)).gB 4 (.slice R2 (P1.length+Sj.length+1) p2);simp only[List.set_cons_zero,List.set_cons_succ,List.length_append,List.length_map,List.length_cons,List.length_nil,Nat.zero_add] at zG;replace zR:=zR.far (p:=⟨(w.heap.size+1+1+1+1),3,none⟩) (by first | (simp;done) | (simp;omega)) (.slice R1 (P1.length+Sj.length+1) p1);replace zV:=zV.far (p:=⟨(w.heap.size+1+1+1+1),3,none⟩) (by first | (simp;done) | (simp;omega)) (.slice R1 (P1.length+Sj.length+1) p1);replace zB:=zB.far (p:=⟨(w.heap.size+1+1+1+1),3,none⟩) (by first | (simp;done) | (simp;omega)) (.slice R1 (P1.length+Sj.length+1) p1);replace zX:=zX.far (p:=⟨(w.heap.size+1+1+1+1),3,none⟩) (by first | (simp;done) | (simp;omega)) (.slice R1 (P1.length+Sj.length+1) p1);replace zR:=zR.far (p:=⟨(w.heap.size+1+1+1+1),4,none⟩) (by first | (simp;done) | (simp;omega)) (.slice R2 (P1.length+Sj.length+1) p2);replace zV:=zV.far (p:=⟨(w.heap.size+1+1+1+1),4,none⟩) (by first | (simp;done) | (simp;omega)) (.slice R2 (P1.length+Sj.length+1) p2);replace zB:=zB.far (p:=⟨(w.heap.size+1+1+1+1),4,none⟩) (by first | (simp;done) | (simp;omega)) (.slice R2 (P1.length+Sj.length+1) p2);replace zX:=zX.far (p:=⟨(w.heap.size+1+1+1+1),4,none⟩) (by first | (simp;done) | (simp;omega)) (.slice R2 (P1.length+Sj.length+1) p2);replace hw:=(hw.setCell (p:=⟨(w.heap.size+1+1+1+1),3,none⟩) (by first | (simp;done) | (simp;omega)) (.slice R1 (P1.length+Sj.length+1) p1)).setCell (p:=⟨(w.heap.size+1+1+1+1),4,none⟩) (by first | (simp;done) | (simp;omega)) (.slice R2 (P1.length+Sj.length+1) p2);clear hS fz3 cz3 fz4 cz4 lz hg5 hv5 ho5 hg1 hv1 ho1;go_wp2;go_roundw
        case rel=>exact⟨j+1,_,_,by go_num,by go_light;omega,by rw[Hsel.out];simpa[Nat.add_assoc] using hR,zG,zR,zV,zB,zX,hw⟩
        case measure=>go_light;simp[intOf];omega
      ·have Hsel:Hid (P1++((ids.zip l).take (j+1)).filter (fun p=>decide (p.1=fid))=P1++Sj):=by show _=_;rw[hsel,if_neg heq,List.append_nil]
       have heb:(idj==fid)=false:=by simpa using heq
       clear heq hsel;go_wp2;go_roundw
       case rel=>exact⟨j+1,_,_,by go_num,by go_light;omega,by rw[Hsel.out];exact hR,zG,zR,zV,zB,zX,hw⟩
       case measure=>go_light;simp[intOf];omega
     ·have hfull:(ids.zip l).take j=ids.zip l:=List.take_of_length_le (by rw[List.length_zip];omega);rw[hfull,←Hsucc.out] at hR;go_wp2;go_roundw
      case rel=>exact⟨n+1,_,_,by go_num,by go_light;omega,hR,zG,zR,zV,zB,hw⟩
      case measure=>go_light;simp[intOf];omega
  ·have hle:=HLen.out n hn;have hall:nY b t ids l n=t.fields.flatMap (eQ b 4 ids l):=by unfold nY;rw[List.take_of_length_le (by go_light;omega)]
   rw[hall] at hro hle;obtain⟨v,hv⟩:=exE (kz b 4 t ids l);obtain⟨L,hL⟩:=exE (t.fields.flatMap (eQ b 4 ids l));have hv2:v=.mk 2 0 ⟨#[]⟩ (L.map (·.1)) (L.map (·.2)):=by rw[hv,hL];rfl
   rw[←hL] at hro hle;obtain⟨R1,p1,rfl,_⟩:=hro.ids.form;obtain⟨R2,p2,rfl,_⟩:=hro.l.form;have hrd:aA (fun y=>w.heap.size+1+1+1+1+1≤y∨(S' y∧y<w.heap.size)) wr [O 2,O 0,E0,.slice R1 (L.map (·.1)).length p1,.slice R2 (L.map (·.2)).length p2] v:=by
    rw[hv2];exact hro.read (S:=(fun y=>w.heap.size+1+1+1+1+1≤y∨(S' y∧y<w.heap.size))) (fun y hy=>.inl hy) (fun y hy=>hy) (by rw[List.length_map];omega) (by rw[List.length_map];omega) 2 0 ⟨#[]⟩
   rw[←hv];generalize (L.map (·.1)).length=L1 at *;generalize (L.map (·.2)).length=L2 at *;obtain⟨e0,e1,e2,e3,e4⟩:=zG.five;obtain⟨r0,r1,r2,r3,r4,g0,g1,g2,g3,g4,hlr⟩:=(zR).rr5;have Hv:=hidL hv;have Hrd:=hidL hrd;clear hv hrd hro hall hle hL hv2 zV zB;go_wp2_with fail;change bodyPost _ _ _ _ _ (setCells wr (w.heap.size+1+1+1) 0 [O 2,O 0,E0,.slice R1 L1 p1,.slice R2 L2 p2]);have hb5:=zR.setCells [O 2,O 0,E0,.slice R1 L1 p1,.slice R2 L2 p2] rfl;have hw5:=below_setCells (g:=w.heap.size+1+1+1) (by go_light;omega) [O 2,O 0,E0,.slice R1 L1 p1,.slice R2 L2 p2] 0 _ hb;have hrd2:aA (Un S' w) (setCells wr (w.heap.size+1+1+1) 0 [O 2,O 0,E0,.slice R1 L1 p1,.slice R2 L2 p2]) [O 2,O 0,E0,.slice R1 L1 p1,.slice R2 L2 p2] v :=
    aA.fair.mono (aA.fair.keep Hrd.out (az.setCells (by rintro(h | h) <;> omega) _ _ _)) (fun y hy _=>hy.elim (fun h=>.inr (by go_light;omega)) (fun h=>.inl h.1))
   generalize setCells wr (w.heap.size+1+1+1) 0 _=W at hb5 hw5 hrd2 ⊢;exact bodyPost_ret (Pi hb5 rfl) rfl ⟨_,rfl,by rw[←Hv.out];exact hrd2,hw5⟩
end
section
open Go.Proofs.Tryz
open Go.RowKit
attribute [local go_sem ↓] Go.wp_at_zero Go.wp_at_succ
def qQ (ps:List Part):Nat→Option Int
 | 0=>none
 | k+1=>(ps[k]?).map (·.id)
theorem wV {W:World}{a:Act}{g:Nat}{c0 c1 c2 c3 c4:Value}{n:Int}(hb:Box W g 65 [c0,c1,c2,c3,c4])(h4:a.tmps.getD 8 undef=.pointer (some ⟨g,0,none⟩))(h5:a.tmps.getD 9 undef=O n) :
  (results f88 a.tmps).run prog W=.ok (.tuple #[.agg #[c0,c1,c2,c3,c4],O n]) W:=by
 obtain⟨e0,e1,e2,e3,e4⟩:=hb.five;simp only[Array.getD_eq_getD_getElem?] at h4 h5;simp[results,results88,go_sem,h4,h5,e0,e1,e2,e3,e4]
theorem Pn {b:av}{rec:ax→List UInt8→aj × Int}{t:ax}{ps:List Part}{k:Nat}(hk:k<ps.length)(ai:List Int)(al:List aj) :
  gm b rec t (qQ ps k) (ps.drop k) ai al=(if nQ (qQ ps k) ps[k].id=true then (([],[]),1) else match aC t ps[k].id with
   | none=>gm b rec t (qQ ps (k+1)) (ps.drop (k+1)) ai al
   | some f =>
    if eO b f (mO ps[k])≠0 then (([],[]),eO b f (mO ps[k]))
    else if f.rule≠3∧dV ai ps[k].id=true then (([],[]),4)
    else if f.kind=5 then
     (if (rec (typeOf b f.type) (bytes ps[k].s)).2≠0 then (([],[]),(rec (typeOf b f.type) (bytes ps[k].s)).2)
     else gm b rec t (qQ ps (k+1)) (ps.drop (k+1)) (ai++[ps[k].id]) (al++[(rec (typeOf b f.type) (bytes ps[k].s)).1]))
    else gm b rec t (qQ ps (k+1)) (ps.drop (k+1)) (ai++[ps[k].id]) (al++[mO ps[k]])):=by
 have h1:ps.drop k=ps[k]::ps.drop (k+1):=List.drop_eq_getElem_cons hk;have h3:qQ ps (k+1)=some ps[k].id:=by show Option.map _ ps[k]? = _;rw[List.getElem?_eq_getElem hk];rfl
 rw[h1,gm,h3];cases aC t ps[k].id <;> rfl
theorem abD {α:Type}{o:Option α}(h:o.isSome=false):o=none:=by cases o with | none=>rfl | some _=>cases h
theorem aal {α:Type}{o:Option α}{d f:α}(h:o.isSome=true)(hd:o.getD d=f):o=some f:=by cases o with | none=>cases h | some x=>exact congrArg some hd
theorem adr {ps:List Part}{k:Nat}(h:k<ps.length){id:Int}:nQ (qQ ps (k+1)) id=decide (id<ps[k].id):=by
 show nQ (Option.map _ ps[k]?) id=_;rw[List.getElem?_eq_getElem h];rfl
def aem (S:Nat→Prop)(vb:Value)(b:av)(k:Nat):Prop:=∀ (d:Int) (cst:List Value) (t:ax) (s:ByteArray) (w:World),d+k=25→1≤d→RSl 5 96 ah S w [vb] b→ah S w cst t→t∈b→aM b t.name=some t→t.enum=false→s.size≤maxLen →
  Calls prog 88 #[.agg #[vb],.agg cst.toArray,.string s,O d] w (jf w (iN b k t (bytes s)))
theorem Ws (S:Nat→Prop)(vb:Value)(b:av):aem S vb b 0:=by
 intro d cst t s w hd hd1 hb0 ht hmem hfi hen hs;obtain⟨A,cap,rfl,hlc,hlb⟩:=hb0.form;obtain⟨A1,k1,A2,k2,A3,k3,rfl,hf,hgn,hi⟩:=ht.parts;obtain⟨x1,x2,x3,x4⟩:=kW w [.slice A b.length cap] (TT t A1 k1 A2 k2 A3 k3) [O 0,O 0,E0,Z0,Z0] 38 53 65;have hd2:24<d:=by go_light;omega
 clear hb0 ht hf hgn hi hen;go_enter func88,ntmps88;go_wp2_with fail;exact bodyPost_ret (wV x3 rfl rfl) rfl ⟨_,rfl,aA.zero,x4⟩
theorem YH (S:Nat→Prop)(vb:Value)(b:av)(hg:aB b=0)(k:Nat)(IH0:aem S vb b k):aem S vb b (k+1):=by
 intro d cst t s w hd hd1 hb0 ht hmem hfi hen hs;obtain⟨A,cap,rfl,hlc,hlb⟩:=hb0.form;obtain⟨A1,k1,A2,k2,A3,k3,rfl,hf,hgn,hi⟩:=ht.parts;have hm:=bq hg hmem hen;have IH:=hidL (IH0 (d+1));obtain⟨x1,x2,x3,x4⟩:=kW w [.slice A b.length cap] (TT t A1 k1 A2 k2 A3 k3) [O 0,O 0,E0,Z0,Z0] 38 53 65;have HB:=hidL hb0;have HT:=hidL ht;have HM:=hidL hm;have HG:=hidL hg;obtain⟨dF,hdF⟩:=exE (mV (bytes s));have hwd:=fun W=>Bq s W hs
 rw[←hdF] at hwd;have Hwd:=hidL hwd;obtain⟨r,hr⟩:=exE (iN b (k+1) t (bytes s));have Hr:Hid (r=if dF.2≠0 then (.zero,dF.2) else if (gm b (iN b k) t none dF.1 [] []).2≠0 then (.zero,(gm b (iN b k) t none dF.1 [] []).2)
   else (kz b 4 t (gm b (iN b k) t none dF.1 [] []).1.1 (gm b (iN b k) t none dF.1 [] []).1.2,0)):=by
  show _=_;rw[hr,iN,hdF]
 rw[←hr];have hd2:¬ 24<d:=by go_light;omega
 clear hb0 ht hf hgn hi hm hwd hdF hr hmem hfi hen hs;go_enter func88,ntmps88;go_wp2_with fail;refine(Hwd.out _).mono ?_;rintro e w1 ⟨vps,rfl,hps,hb1,hpsz,hpl⟩;obtain⟨ps,dc⟩:=dF;dsimp only at hps hpsz hpl Hr ⊢;obtain⟨PA,pcap,rfl,hpc,hpb⟩:=hps.form;have hw1:=aa x4 hb1 x4.size;have y1:=x1.below hb1 x1.lt;have y2:=x2.below hb1 x2.lt;have y3:=x3.below hb1 x3.lt;have HP:=hidL hps;have HPs:=hidL hpsz;clear hb1 x1 x2 x3 x4 hps hpsz
 by_cases hdc:dc=0
 ·subst hdc;rw[if_neg (by simp)] at Hr;obtain⟨rec,hrec⟩:=exE (iN b k);rw[←hrec] at Hr;have Hrec:=hidL hrec;obtain⟨DG,hDG⟩:=exE (gm b rec t none ps [] []);rw[←hDG] at Hr;have HDG:=hidL hDG;have HB1:=hidL ((RSl.fair ah.fair).below HB.out hw1);have HT1:=hidL (ah.fair.below HT.out hw1);have hG:w.heap.size+1+1<w1.heap.size:=y3.lt;clear hrec hDG HB HT;go_wp2_with fail;go_loopg [36] ps.length (fun gk i wr=>∃ (q:Nat) (ai:List Int) (al:List aj) (vi vl:Value),i=O q∧gk+q=ps.length∧Hid (gm b rec t (qQ ps q) (ps.drop q) ai al=DG)∧ai.length=al.length∧ai.length≤q ∧
    cZ (fun y=>w1.heap.size+1≤y) (w1.heap.size+1) wr w1.heap.size vi vl ai al∧Box wr w1.heap.size 65 [O 2,O 0,E0,vi,vl]∧Below w1.heap.size w1 wr)
  case atStart =>
   exact⟨0,[],[],Z0,Z0,rfl,rfl,HDG.out.symm,rfl,Nat.le_refl _,cZ.new _ _ _ _ (by go_light;omega) (by simp),Box.new w1 _ _,(Below.refl _ _).alloc (Nat.le_refl _) _⟩
  case round =>
   obtain⟨q,ai,al,vi,vl,rfl,hq,he,hll,hlq,hR,zG,hw⟩:=hrel;have Hq:=hidL hq;have Hll:=hidL hll;have zB:=y1.below hw y1.lt;have zT:=y2.below hw y2.lt;have zR:=y3.below hw y3.lt
   by_cases hlt:q<ps.length
   ·obtain⟨pg,po,rfl,hSp,hgp⟩:=HP.out.base (by go_light;omega);have hc:=(HP.out.flat (enc:=bD) hlt).keep (az.of_below hw) hSp;have hst:=Pn (b:=b) (rec:=rec) (t:=t) hlt ai al;rw[he.out] at hst;have hpz:=HPs.out ps[q] (List.getElem_mem hlt);have hq1:q-1<ps.length:=Nat.lt_of_le_of_lt (Nat.sub_le _ _) hlt;have hpv:LL wr pg (po+(q-1)*4) (O (ps[q-1]'hq1).id):=((HP.out.flat (enc:=bD) hq1).keep (az.of_below hw) hSp).at_ 0 rfl;have hfn:0<q→∀ id,nQ (qQ ps q) id=decide (id<(ps[q-1]'hq1).id):=fun h0 id=>by
     obtain⟨j,rfl⟩:∃ j,q=j+1:=⟨q-1,by go_light;omega⟩;exact adr (by go_light;omega)
    have hf0:¬ 0<q→∀ id,nQ (qQ ps q) id=false:=fun h0 id=>by
     obtain rfl:q=0:=by go_light;omega
     rfl
    obtain⟨y,hye⟩:=exE ((ps[q-1]'hq1).id);rw[←hye] at hpv hfn;clear hye hq1;obtain⟨p,hp⟩:=exE (ps[q]);rw[←hp] at hc hst hpz;obtain⟨pid,pk,pn,pp⟩:=p;have q0:=hc.a0 rfl;have q1:=hc.at_ 1 rfl;have q2:=hc.at_ 2 rfl;have q3:=hc.at_ 3 rfl;have hgpl:pg<wr.heap.size:=Nat.lt_of_lt_of_le hgp hw.size;have hpz':pp.size≤20000:=hpz;dsimp only at hst;obtain⟨fl,hfl⟩:=exE (nQ (qQ ps q) pid);have hfn':0<q→fl=decide (pid<y):=fun h=>by rw[hfl];exact hfn h pid
    have hf0':¬ 0<q→fl=false:=fun h=>by rw[hfl];exact hf0 h pid
    rw[←hfl] at hst;have Hst:=hidL hst;have Hpz:=hidL hpz';have Hpv:=hidL hpv;have Hfn:=hidL hfn';have Hf0:=hidL hf0';clear hc hp hst hpz hpz' hpv hfn he hfl hf0 hfn' hf0' hq hll;go_upto_region 10 with fail;have hwa:=hw.alloc hw.size (.cells #[O pid,O pk,O pn,.string pp] 178);have aP:Box (wr.alloc (.cells #[O pid,O pk,O pn,.string pp] 178)) wr.heap.size 178 [O pid,O pk,O pn,.string pp]:=Box.new wr _ _;have aG:=zG.alloc (.cells #[O pid,O pk,O pn,.string pp] 178);have aR:=hR.alloc (.cells #[O pid,O pk,O pn,.string pp] 178);have hpw:(wr.alloc (.cells #[O pid,O pk,O pn,.string pp] 178)).cell? ⟨pg,po+(q-1)*4,none⟩=some (O y):=by
     rw[World.cell?_of_block (w:=wr) (Below.heap_alloc wr _ pg hgpl)];exact Hpv.out
    have hGP:w1.heap.size<wr.heap.size:=zG.lt;have hpgl:pg<(wr.alloc (.cells #[O pid,O pk,O pn,.string pp] 178)).heap.size:=by go_light;simp;omega
    clear q0 q1 q2 q3 hgpl Hpv zB zT zR zG hR hw;generalize hWa:wr.alloc (.cells #[O pid,O pk,O pn,.string pp] 178)=Wa at *;generalize hPa:wr.heap.size=P at *;clear hWa hPa wr;have Hpw:=hidL hpw;clear hpw;have hlP:=aP.lt;go_cut [53] from 41 to 53 (fun s wx=>s=.bool fl∧wx=Wa.drew)
    case first =>
     have p0:LL Wa P 0 (O pid):=aP.cell 0
     by_cases hq0:0<q
     ·have pw:=Hpw.out;have e1:IntKind.i64.wrap ((q:Int)-1)=(q:Int)-1:=IntWalk.i64_in _ (by go_light;omega);have e2:((q:Int)-1).toNat=q-1:=by go_light;omega
      have e3:decide (0<q)=true:=by go_light;simp;omega
      have e4:(1:Int)≤q:=by go_light;omega
      have e5:(q:Int)-1<ps.length:=by go_light;omega
      have hS:LL Wa.drew pg (po+(q-1)*4) (O y)∧LL Wa.drew P 0 (O pid):=⟨pw,p0⟩;clear pw p0;refine aY (lt:=13) (hm:=by kernel_rfl) (h:=?_) (S:=fun W'=>LL W' pg (po+(q-1)*4) (O y)∧LL W' P 0 (O pid));apply tkL 0 hS;apply tkL 1 hS;apply tkL 2 hS;apply tkL 3 hS;apply tkL 4 hS;apply tkL 5 hS;apply tkL 6 hS;apply tkL 7 hS;apply tkL 8 hS;apply tkL 9 hS;apply tkL 10 hS;apply tkL 11 hS;apply tkL 12 hS
      try simp only[pu]
      refine ani ?_ _
      go_show
      go_wp2_with fail
      go_show
      go_meet
      case rel=>exact⟨by rw[Hfn.out hq0],rfl⟩
     ·have e3:decide (0<q)=false:=by go_light;simp;omega
      have hS:True:=trivial;refine aY (lt:=13) (hm:=by kernel_rfl) (h:=?_) (S:=fun _=>True);apply tkL 0 hS;apply tkL 1 hS;apply tkL 2 hS;apply skL 3 hS;apply skL 4 hS;apply skL 5 hS;apply skL 6 hS;apply skL 7 hS;apply skL 8 hS;apply skL 9 hS;apply skL 10 hS;apply skL 11 hS;apply tkL 12 hS
      try simp only[pu]
      refine ani ?_ _;go_wp2;go_meet
      case rel=>exact⟨by rw[Hf0.out hq0],rfl⟩
    case rest =>
     obtain⟨rfl,rfl⟩:=hcut;clear Hfn Hf0 Hpw hpgl hSp hgp;replace aP:=aP.drew;replace aG:=aG.drew;replace aR:=aR.drew;replace hwa:=au hwa;generalize hWb:Wa.drew=Wb at *;clear hWb hlP Wa;have hlP:=aP.lt;have aT:=y2.below hwa y2.lt;have aV:=y3.below hwa y3.lt;cases fl with
     | true =>
      have Hno:=hidL (show r=(.zero,1) from by rw[Hr.out,Hst.out];simp);obtain⟨r0,r1,r2,r3,r4,g0,g1,g2,g3,g4,hlr⟩:=(aV).rr5;have hwb:=aa hw1 hwa hw1.size;go_wp2_with fail;change bodyPost _ _ _ _ _ (setCells Wb (w.heap.size+1+1) 0 [O 0,O 0,E0,Z0,Z0]);have hb5:=aV.setCells [O 0,O 0,E0,Z0,Z0] rfl;have hw5:=below_setCells (g:=(w.heap.size+1+1)) (by go_light;omega) [O 0,O 0,E0,Z0,Z0] 0 _ hwb;generalize setCells Wb (w.heap.size+1+1) 0 _=W5 at hb5 hw5 ⊢;rw[Hno.out];exact bodyPost_ret (wV hb5 rfl rfl) rfl ⟨_,rfl,aA.zero,hw5⟩
     | false =>
      rw[if_neg (by simp)] at Hst;obtain⟨t0,t1,t2,t3,t4⟩:=aT.five;have hlT:=aT.lt;have p0:LL Wb P 0 (O pid):=aP.cell 0;have HTb:=hidL (ah.fair.below HT1.out hwa);go_wp2_with fail;refine(yZ S _ t pid _ HTb.out).mono ?_;rintro e w2 ⟨fx,hfx,rfl,hb2⟩;obtain⟨so,hso⟩:=exE ((aC t pid).isSome);rw[←hso];have hwc:=aa hwa hb2 hwa.size;have cP:=aP.below hb2 aP.lt;have cG:=aG.below hb2 aG.lt;have cR:=aR.below hb2;have hGc:w1.heap.size<w2.heap.size:=cG.lt;have hPc:P<w2.heap.size:=cP.lt;clear t0 t1 t2 t3 t4 hlT p0 aT aV aP aG aR hwa hb2 hlP HTb Wb;cases so with
      | false =>
       rw[abD hso.symm] at Hst;have Hgo:Hid (gm b rec t (qQ ps (q+1)) (ps.drop (q+1)) ai al=DG):=(show _=_ from Hst.out.symm);clear Hst hso hfx;go_wp2_with fail;have hq:=Hq.out;have hll:=Hll.out
       go_roundg (gk-1)
       case measure=>go_light;omega
       case rel=>first | exact⟨q+1,ai,al,vi,vl,by go_num,by go_light;omega,Hgo,hll,by go_light;omega,cR.alloc _,cG.alloc _,hwc.alloc hwc.size _⟩ | ((repeat apply Exists.intro);exact⟨⟨q+1,ai,al,vi,vl,by go_num,by go_light;omega,Hgo,hll,by go_light;omega,cR.alloc _,cG.alloc _,hwc.alloc hwc.size _⟩,rfl⟩)
      | true =>
       have hsome:=aal hso.symm hfx.out;rw[hsome] at Hst;have hfp:iC b fx:=bC HM.out (bE hsome).1;obtain⟨fid,fname,ftype,fkind,frule⟩:=fx;have Hfp:=hidL hfp;dsimp only at Hst;clear hso hfx hsome hfp;have p1:LL w2 P 1 (O pk):=cP.cell 1;have p2:LL w2 P 2 (O pn):=cP.cell 2;go_upto_if 71 with fail;clear p1 p2;have hwd:=(hwc.alloc hwc.size (.cells (FF fid fname ftype fkind frule).toArray 55)).alloc (by go_light;have:=hwc.size;simp;omega) (.cells #[O pk,O pn,E0,Z0,Z0] 65);have dF:Box ((w2.alloc (.cells (FF fid fname ftype fkind frule).toArray 55)).alloc (.cells #[O pk,O pn,E0,Z0,Z0] 65)) w2.heap.size 55 (FF fid fname ftype fkind frule):=(Box.new w2 _ _).alloc _;have dX:Box ((w2.alloc (.cells (FF fid fname ftype fkind frule).toArray 55)).alloc (.cells #[O pk,O pn,E0,Z0,Z0] 65)) (w2.heap.size+1) 65 [O pk,O pn,E0,Z0,Z0]:=by
        have:=Box.new (w2.alloc (.cells (FF fid fname ftype fkind frule).toArray 55)) 65 [O pk,O pn,E0,Z0,Z0];simpa using this
       have dP:=(cP.alloc (.cells (FF fid fname ftype fkind frule).toArray 55)).alloc (.cells #[O pk,O pn,E0,Z0,Z0] 65);have dG:=(cG.alloc (.cells (FF fid fname ftype fkind frule).toArray 55)).alloc (.cells #[O pk,O pn,E0,Z0,Z0] 65);have dR:=(cR.low.alloc (.cells (FF fid fname ftype fkind frule).toArray 55)).alloc (.cells #[O pk,O pn,E0,Z0,Z0] 65);have hvB:Hid (∀ y,vi.ownBlock=some y→y<w2.heap.size):=(show ∀ y,vi.ownBlock=some y→y<w2.heap.size from fun y hy=>(cR.ilt hy).2);have hlV:Hid (∀ y,vl.ownBlock=some y→y<w2.heap.size):=(show ∀ y,vl.ownBlock=some y→y<w2.heap.size from fun y hy=>(cR.llt hy).2);clear cP cG cR hwc;generalize hWd:(w2.alloc (.cells (FF fid fname ftype fkind frule).toArray 55)).alloc (.cells #[O pk,O pn,E0,Z0,Z0] 65)=Wd at *;generalize hX:w2.heap.size+1=X at *;generalize hF:w2.heap.size=F at *;have HX:Hid (F+1=X):=hX;have hXF:F<X:=by go_light;omega
       clear hWd hF hX;go_cut [] from 71 to 74 (fun wx=>∃ xs,Hid (xs=if pk=1 then pp else ⟨#[]⟩)∧Box wx X 65 [O pk,O pn,.string xs,Z0,Z0]∧Box wx F 55 (FF fid fname ftype fkind frule)∧Box wx P 178 [O pid,O pk,O pn,.string pp]∧Box wx w1.heap.size 65 [O 2,O 0,E0,vi,vl]∧cZ (fun y=>w1.heap.size+1≤y∧y<F) (w1.heap.size+1) wx w1.heap.size vi vl ai al∧Below w1.heap.size w1 wx)
       case first =>
        by_cases hpk:pk=1
        ·have hpb:(pk==1)=true:=by simpa using hpk
         have p3:LL Wd P 3 (.string pp):=dP.cell 3;have hlp:=dP.lt;have f2:=dX.frozen 2;have x2:LL Wd X 2 (E0):=dX.cell 2;have hlx:=dX.lt;have rel:Hid (∃ xs,Hid (xs=if pk=1 then pp else ⟨#[]⟩)∧Box (Wd.setCell ⟨X,2,none⟩ (.string pp)) X 65 [O pk,O pn,.string xs,Z0,Z0]∧Box (Wd.setCell ⟨X,2,none⟩ (.string pp)) F 55 (FF fid fname ftype fkind frule)∧Box (Wd.setCell ⟨X,2,none⟩ (.string pp)) P 178 [O pid,O pk,O pn,.string pp]∧Box (Wd.setCell ⟨X,2,none⟩ (.string pp)) w1.heap.size 65 [O 2,O 0,E0,vi,vl]∧cZ (fun y=>w1.heap.size+1≤y∧y<F) (w1.heap.size+1) (Wd.setCell ⟨X,2,none⟩ (.string pp)) w1.heap.size vi vl ai al∧Below w1.heap.size w1 (Wd.setCell ⟨X,2,none⟩ (.string pp))) :=
          ⟨pp,(show pp=if pk=1 then pp else ⟨#[]⟩ from by rw[if_pos hpk]),dX.gB 2 _,dF.far (p:=⟨X,2,none⟩) (by go_light;simp;omega) _,dP.far (p:=⟨X,2,none⟩) (by go_light;simp;omega) _,dG.far (p:=⟨X,2,none⟩) (by go_light;simp;omega) _,dR.far (p:=⟨X,2,none⟩) (fun e=>by go_light;have:=hvB.out _ e;simp at this;omega) (fun e=>by go_light;have:=hlV.out _ e;simp at this;omega) (fun e=>by go_light;have:=e.2;simp at this;omega) _,hwd.setCell (p:=⟨X,2,none⟩) (by go_light;simp;omega) _⟩
         clear hpk dX dF dP dG dR hwd;go_wp2;go_meet
         case rel=>exact rel.out
        ·have hpb:(pk==1)=false:=by simpa using hpk
         have rel:Hid (∃ xs,Hid (xs=if pk=1 then pp else ⟨#[]⟩)∧Box Wd X 65 [O pk,O pn,.string xs,Z0,Z0]∧Box Wd F 55 (FF fid fname ftype fkind frule)∧Box Wd P 178 [O pid,O pk,O pn,.string pp]∧Box Wd w1.heap.size 65 [O 2,O 0,E0,vi,vl]∧cZ (fun y=>w1.heap.size+1≤y∧y<F) (w1.heap.size+1) Wd w1.heap.size vi vl ai al∧Below w1.heap.size w1 Wd) :=
          ⟨⟨#[]⟩,(show ⟨#[]⟩=if pk=1 then pp else ⟨#[]⟩ from by rw[if_neg hpk]),dX,dF,dP,dG,dR,hwd⟩
         clear hpk dX dF dP dG dR hwd;go_wp2;go_meet
         case rel=>exact rel.out
       case rest =>
        obtain⟨xs,hxs,eX,eF,eP,eG,eR,hwe⟩:=hcut;have hbv:mO ⟨pid,pk,pn,pp⟩=.mk pk pn xs [] []:=by unfold mO;rw[hxs.out]
        have hxz:xs.size≤20000:=by
         rw[hxs.out];split
         ·exact Hpz.out
         ·decide
        rw[hbv] at Hst;clear dX dF dP dG dR hwd Wd hbv hxs;obtain⟨v0,v1,v2,v3,v4⟩:=eF.five;obtain⟨z0,z1,z2,z3,z4⟩:=eX.five;have eB:=y1.below hwe y1.lt;have b0:LL wc w.heap.size 0 (.slice A b.length cap):=eB.cell 0;have hlB:=eB.lt;have hlF:=eF.lt;have hlX:=eX.lt;have HBe:=hidL ((RSl.fair ah.fair).below HB1.out hwe);obtain⟨fi,hfi⟩:=exE (eO b ⟨fid,fname,ftype,fkind,frule⟩ (.mk pk pn xs [] []));have hcall:=aaP S (fun _=>False) _ b ⟨fid,fname,ftype,fkind,frule⟩ _ (.mk pk pn xs [] []) wc HBe.out (aA.plain pk pn xs) (by show xs.size≤_;omega);rw[←hfi] at hcall Hst;have Hcall:=hidL hcall;clear hcall hfi eB;go_wp2_with fail;refine Hcall.out.mono ?_;rintro e w3 ⟨rfl,hb3⟩;have hwf:=aa hwe hb3 hwe.size;replace eX:=eX.below hb3 eX.lt;replace eF:=eF.below hb3 eF.lt;replace eP:=eP.below hb3 eP.lt;replace eG:=eG.below hb3 eG.lt;replace eR:=eR.below hb3;clear v0 v1 v2 v3 v4 z0 z1 z2 z3 z4 b0 hlB hlF hlX HBe Hcall hb3 hwe wc;have aV:=y3.below hwf y3.lt
        by_cases hfi0:fi=0
        ·subst hfi0;rw[if_neg (by simp)] at Hst;obtain⟨hv,hhv⟩:=exE (dV ai pid);rw[←hhv] at Hst;have Hhv:=hidL hhv;clear hhv;go_upto_region 20 with fail;have v4:LL w3 F 4 (O frule):=eF.cell 4;have hlF:=eF.lt;go_cut [92] from 83 to 92 (fun s wx=>s=.bool (decide (frule≠3)&&hv)∧wx=w3)
         case first =>
          by_cases hr3:frule=3
          ·have hrb:(frule != 3)=false:=by simpa using hr3
           have hfin:Hid ((decide (frule≠3)&&hv)=false):=(show _=_ from by simp[hr3]);clear hr3;go_wp2;go_meet
           case rel=>exact⟨by rw[hfin.out],rfl⟩
          ·have hrb:(frule != 3)=true:=by simpa using hr3
           have c3:LL w3 w1.heap.size 3 vi:=eG.cell 3;have hlG:=eG.lt;have p0:LL w3 P 0 (O pid):=eP.cell 0;have hlP:=eP.lt;have hfin:Hid ((decide (frule≠3)&&hv)=hv):=(show _=_ from by simp[hr3]);have Hrd:Hid (RSl 1 8 aQ (fun _=>True) w3 [vi] ai):=eR.ids.read aQ.fair (fun _ h=>h.elim) (fun _ _=>trivial) (by go_light;omega);clear hr3;go_wp2_with fail;refine(OI (fun _=>True) vi ai pid _ Hrd.out).mono ?_;rintro e w' ⟨rfl,rfl⟩;rw[←Hhv.out];go_wp2;go_meet
           case rel=>exact⟨by rw[hfin.out],rfl⟩
         case rest =>
          obtain⟨rfl,rfl⟩:=hcut;clear v4 hlF Hhv;obtain⟨tw,htw⟩:=exE ((decide (frule≠3)&&hv));have hite:∀ {α:Type} (x y:α),(if frule≠3∧hv=true then x else y)=if tw=true then x else y:=by
           intro α x y;rw[htw]
           by_cases h:frule=3 <;> simp[h]
          rw[hite] at Hst;rw[←htw];clear htw hite;cases tw with
          | true =>
           have Hno:=hidL (show r=(.zero,4) from by rw[Hr.out,Hst.out];simp);obtain⟨r0,r1,r2,r3,r4,g0,g1,g2,g3,g4,hlr⟩:=(aV).rr5;have hwb:=aa hw1 hwf hw1.size;go_wp2_with fail;change bodyPost _ _ _ _ _ (setCells wc (w.heap.size+1+1) 0 [O 0,O 0,E0,Z0,Z0]);have hb5:=aV.setCells [O 0,O 0,E0,Z0,Z0] rfl;have hw5:=below_setCells (g:=(w.heap.size+1+1)) (by go_light;omega) [O 0,O 0,E0,Z0,Z0] 0 _ hwb;generalize setCells wc (w.heap.size+1+1) 0 _=W5 at hb5 hw5 ⊢;rw[Hno.out];exact bodyPost_ret (wV hb5 rfl rfl) rfl ⟨_,rfl,aA.zero,hw5⟩
          | false =>
           rw[if_neg (by simp)] at Hst;have v3:LL wc F 3 (O fkind):=eF.cell 3;have hlF:=eF.lt;go_upto_if 96 with fail;clear v3;go_cut [] from 94 to 117 (fun wx=>∃ (xk xn:Int) (xs:ByteArray) (xi:List Int) (xl:List aj) (E1:Option Addr) (f1:Nat) (E2:Option Addr) (f2 B:Nat),
            Hid (gm b rec t (qQ ps (q+1)) (ps.drop (q+1)) (ai++[pid]) (al++[.mk xk xn xs xi xl])=DG)∧Box wx X 65 (VV xk xn xs E1 xi f1 E2 xl f2)∧aA (fun y=>B≤y) wx (VV xk xn xs E1 xi f1 E2 xl f2) (.mk xk xn xs xi xl)∧w1.heap.size+1≤B ∧
            Hid (∀ y,vi.ownBlock=some y→y<B)∧Hid (∀ y,vl.ownBlock=some y→y<B)∧Box wx P 178 [O pid,O pk,O pn,.string pp]∧Box wx w1.heap.size 65 [O 2,O 0,E0,vi,vl]∧cZ (fun y=>w1.heap.size+1≤y) (w1.heap.size+1) wx w1.heap.size vi vl ai al∧Below w1.heap.size w1 wx)
           case first =>
            by_cases hk5:fkind=5
            ·have hkb:(fkind==5)=true:=by simpa using hk5
             rw[if_pos hk5] at Hst;obtain⟨ty0,hfT,htO,htm,htn,hte,-⟩:=gZ HG.out Hfp.out hk5;clear hk5;dsimp only at hfT htO htn;have eB:=y1.below hwf y1.lt;have b0:LL wc w.heap.size 0 (.slice A b.length cap):=eB.cell 0;have hlB:=eB.lt;have v2:LL wc F 2 (.string ftype):=eF.cell 2;have HBg:=hidL ((RSl.fair ah.fair).below HB1.out hwf);have Hty:=hidL (show ty0∈b∧aM b ty0.name=some ty0∧ty0.enum=false from⟨htm,by rw[htn];exact hfT,hte⟩);have hrd:rec ty0 (bytes pp)=iN b k ty0 (bytes pp):=by rw[Hrec.out]
             rw[htO,hrd] at Hst;clear hrd;have hfc:=gH S _ b ftype wc HBg.out;rw[hfT] at hfc;have Hfc:=hidL hfc;obtain⟨dv,hdv⟩:=exE (iN b k ty0 (bytes pp));have hih:=fun (cst:List Value) (W:World) (h0:RSl 5 96 ah S W [.slice A b.length cap] b) (h1:ah S W cst ty0)=>IH.out cst ty0 pp W (by go_light;have:=hd;omega) (by go_light;omega) h0 h1 Hty.out.1 Hty.out.2.1 Hty.out.2.2 (by have:=Hpz.out;unfold maxLen;omega)
             rw[←hdv] at Hst hih;have Hih:=hidL hih;have e1:IntKind.i64.wrap (d+1)=d+1:=IntWalk.i64_in _ (by go_light;omega);clear hfT htO htm htn hte hfc hdv hih eB;go_wp2_with fail;refine Hfc.out.mono ?_;rintro e w4 ⟨cs4,rfl,hr4,hb4⟩;dsimp only[Option.getD_some,Option.isSome_some] at hr4 ⊢;obtain⟨G1,g1,G2,g2,G3,g3,rfl,-,-,-⟩:=hr4.parts;have hwg:=aa hwf hb4 hwf.size;replace eX:=eX.below hb4 eX.lt;replace eF:=eF.below hb4 eF.lt;replace eP:=eP.below hb4 eP.lt;replace eG:=eG.below hb4 eG.lt;replace eR:=eR.below hb4;have hr4':=ah.fair.below hr4 hb4;clear b0 hlB v2 hlF HBg Hfc hr4 hb4 hwf aV wc;have eB:=y1.below hwg y1.lt;have b0:LL w4 w.heap.size 0 (.slice A b.length cap):=eB.cell 0;have hlB:=eB.lt;have p3:LL w4 P 3 (.string pp):=eP.cell 3;have hlP:=eP.lt;have hwh:=hwg.alloc hwg.size (.cells (TT ty0 G1 g1 G2 g2 G3 g3).toArray 53);have HBg:=hidL ((RSl.fair ah.fair).below HB1.out hwh);have HTg:=hidL (ah.fair.keep hr4' (az.alloc S w4 (.cells (TT ty0 G1 g1 G2 g2 G3 g3).toArray 53)));replace eX:=eX.alloc (.cells (TT ty0 G1 g1 G2 g2 G3 g3).toArray 53);replace eP:=eP.alloc (.cells (TT ty0 G1 g1 G2 g2 G3 g3).toArray 53);replace eG:=eG.alloc (.cells (TT ty0 G1 g1 G2 g2 G3 g3).toArray 53);replace eR:=eR.alloc (.cells (TT ty0 G1 g1 G2 g2 G3 g3).toArray 53);clear hr4' eB hwg eF;go_wp2_with fail;refine(Hih.out _ _ HBg.out HTg.out).mono ?_;rintro e w6 ⟨cs6,rfl,hr6,hb6⟩;have hw6:=aa hwh hb6 hwh.size;have hXl:=eX.lt;have hB6:=eR.hb;have hvB2:Hid (∀ y,vi.ownBlock=some y→y<(w4.alloc (.cells (TT ty0 G1 g1 G2 g2 G3 g3).toArray 53)).heap.size):=(show ∀ y,vi.ownBlock=some y→y<(w4.alloc (.cells (TT ty0 G1 g1 G2 g2 G3 g3).toArray 53)).heap.size from fun y hy=>(eR.ilt hy).2);have hlB2:Hid (∀ y,vl.ownBlock=some y→y<(w4.alloc (.cells (TT ty0 G1 g1 G2 g2 G3 g3).toArray 53)).heap.size):=(show ∀ y,vl.ownBlock=some y→y<(w4.alloc (.cells (TT ty0 G1 g1 G2 g2 G3 g3).toArray 53)).heap.size from fun y hy=>(eR.llt hy).2);have sX:=eX.below hb6 eX.lt;have sP:=eP.below hb6 eP.lt;have sG:=eG.below hb6 eG.lt;have sR:=eR.below hb6;obtain⟨⟨xk,xn,xs,xi,xl⟩,dc⟩:=dv;dsimp only at hr6 Hst ⊢;obtain⟨E1,f1,E2,f2,rfl,-,-⟩:=hr6.parts;unfold New at hr6;generalize hB:(w4.alloc (.cells (TT ty0 G1 g1 G2 g2 G3 g3).toArray 53)).heap.size=B at *;clear hB b0 hlB p3 hlP HBg HTg Hih eX eP eG eR hb6 hwh e1;have aV:=y3.below hw6 y3.lt
             by_cases hdc:dc=0
             ·subst hdc;rw[if_neg (by simp)] at Hst;have rel:Hid (Hid (gm b rec t (qQ ps (q+1)) (ps.drop (q+1)) (ai++[pid]) (al++[.mk xk xn xs xi xl])=DG)∧Box (setCells w6 X 0 (VV xk xn xs E1 xi f1 E2 xl f2)) X 65 (VV xk xn xs E1 xi f1 E2 xl f2)∧aA (fun y=>B≤y) (setCells w6 X 0 (VV xk xn xs E1 xi f1 E2 xl f2)) (VV xk xn xs E1 xi f1 E2 xl f2) (.mk xk xn xs xi xl)∧w1.heap.size+1≤B ∧
               Hid (∀ y,vi.ownBlock=some y→y<B)∧Hid (∀ y,vl.ownBlock=some y→y<B)∧Box (setCells w6 X 0 (VV xk xn xs E1 xi f1 E2 xl f2)) P 178 [O pid,O pk,O pn,.string pp]∧Box (setCells w6 X 0 (VV xk xn xs E1 xi f1 E2 xl f2)) w1.heap.size 65 [O 2,O 0,E0,vi,vl]∧cZ (fun y=>w1.heap.size+1≤y) (w1.heap.size+1) (setCells w6 X 0 (VV xk xn xs E1 xi f1 E2 xl f2)) w1.heap.size vi vl ai al∧Below w1.heap.size w1 (setCells w6 X 0 (VV xk xn xs E1 xi f1 E2 xl f2))) :=
               ⟨(show _=_ from Hst.out.symm),sX.setCells _ rfl,aA.fair.keep hr6 (az.setCells (by go_light;omega) _ _ _),hB6,hvB2,hlB2,Box.fq (by go_light;omega) _ _ sP,Box.fq (by go_light;omega) _ _ sG,(cZ.fq (fun e=>by go_light;have:=hvB.out _ e;omega) (fun e=>by go_light;have:=hlV.out _ e;omega) (fun e=>by go_light;have:=e.2;omega) _ _ sR).up (fun _ h=>h.1),below_setCells (by go_light;omega) _ _ _ hw6⟩
              obtain⟨r0,r1,r2,r3,r4,g0,g1,g2,g3,g4,hlr⟩:=(sX).rr5;clear hr6 sX sP sG sR hw6 aV hvB2 hlB2;go_wp2_with fail;change Met _ _ (setCells w6 X 0 (VV xk xn xs E1 xi f1 E2 xl f2));go_meet
              case rel=>exact⟨xk,xn,xs,xi,xl,E1,f1,E2,f2,B,rel.out⟩
             ·have hcb:(dc != 0)=true:=by simpa using hdc
              rw[if_pos hdc] at Hst;have Hno:=hidL (show r=(.zero,dc) from by rw[Hr.out,Hst.out];simp[hdc]);obtain⟨r0,r1,r2,r3,r4,g0,g1,g2,g3,g4,hlr⟩:=(sX).rr5;have tV:=Box.fq (g':=X) (by go_light;omega) (VV xk xn xs E1 xi f1 E2 xl f2) 0 aV;have hwb:=aa hw1 (below_setCells (g:=X) (by go_light;omega) (VV xk xn xs E1 xi f1 E2 xl f2) 0 _ hw6) hw1.size;obtain⟨q0,q1,q2,q3,q4,s0,s1,s2,s3,s4,hlq⟩:=(tV).rr5;simp only[setCells] at q0 q1 q2 q3 q4 s0 s1 s2 s3 s4 hlq;clear hdc hr6 sX sP sG sR;go_wp2_with fail;change bodyPost _ _ _ _ _ (setCells (setCells w6 X 0 (VV xk xn xs E1 xi f1 E2 xl f2)) (w.heap.size+1+1) 0 [O 0,O 0,E0,Z0,Z0]);have hb5:=tV.setCells [O 0,O 0,E0,Z0,Z0] rfl;have hw5:=below_setCells (g:=(w.heap.size+1+1)) (by go_light;omega) [O 0,O 0,E0,Z0,Z0] 0 _ hwb;generalize setCells (setCells w6 X 0 (VV xk xn xs E1 xi f1 E2 xl f2)) (w.heap.size+1+1) 0 _=W5 at hb5 hw5 ⊢;rw[Hno.out];exact bodyPost_ret (wV hb5 rfl rfl) rfl ⟨_,rfl,aA.zero,hw5⟩
            ·have hkb:(fkind==5)=false:=by simpa using hk5
             rw[if_neg hk5] at Hst;have rel:Hid (∃ (xk xn:Int) (xs:ByteArray) (xi:List Int) (xl:List aj) (E1:Option Addr) (f1:Nat) (E2:Option Addr) (f2 B:Nat),
              Hid (gm b rec t (qQ ps (q+1)) (ps.drop (q+1)) (ai++[pid]) (al++[.mk xk xn xs xi xl])=DG)∧Box wc X 65 (VV xk xn xs E1 xi f1 E2 xl f2)∧aA (fun y=>B≤y) wc (VV xk xn xs E1 xi f1 E2 xl f2) (.mk xk xn xs xi xl)∧w1.heap.size+1≤B ∧
              Hid (∀ y,vi.ownBlock=some y→y<B)∧Hid (∀ y,vl.ownBlock=some y→y<B)∧Box wc P 178 [O pid,O pk,O pn,.string pp]∧Box wc w1.heap.size 65 [O 2,O 0,E0,vi,vl]∧cZ (fun y=>w1.heap.size+1≤y) (w1.heap.size+1) wc w1.heap.size vi vl ai al∧Below w1.heap.size w1 wc) :=
              ⟨pk,pn,xs,[],[],none,0,none,0,F,(show _=_ from Hst.out.symm),eX,aA.plain pk pn xs,by go_light;omega,hvB,hlV,eP,eG,eR.up (fun _ h=>h.1),hwf⟩
             clear hk5;go_wp2;go_meet
             case rel=>exact rel.out
           case rest =>
            obtain⟨xk,xn,xs,xi,xl,E1,f1,E2,f2,B,Hgo,zX,hrx,hB,hvB0,hlB0,zP,zG,hR,hw⟩:=hcut;have hvB:=hvB0.out;have hlB:=hlB0.out;have HXr:=hidL (aA.fair.mono hrx (T:=fun y=>B≤y∧y<wc.heap.size) (fun y hy hl=>⟨hy,hl⟩));have hn1:∀ k,vi.ownBlock=some k→¬ (B≤k∧k<wc.heap.size):=fun k hk h=>by have:=hvB k hk;go_light;omega
            have hnX:vl.ownBlock≠some X:=fun e=>by have:=hlV.out _ e;go_light;omega
            have hal:al.length≤q:=by have:=Hll.out;go_light;omega
            clear hrx hvB0 hlB0 hwf aV eX eF eP eG eR hlF;go_wp2_with fail;have HSK:Hid (∀ W',Box W' w1.heap.size 65 [O 2,O 0,E0,vi,vl]→Box W' X 65 (VV xk xn xs E1 xi f1 E2 xl f2)→Box W' P 178 [O pid,O pk,O pn,.string pp]→(fun W'=>(LL W' w1.heap.size 3 vi∧LL W' w1.heap.size 4 vl)∧LL W' P 0 (O pid)∧(LL W' X 0 (O xk)∧LL W' X 1 (O xn)∧LL W' X 2 (.string xs)∧LL W' X 3 (.slice E1 xi.length f1)∧LL W' X 4 (.slice E2 xl.length f2))) W'):=fun W' h1 h2 h3=>⟨⟨h1.cell 3,h1.cell 4⟩,h3.cell 0,h2.five⟩
            replace hR:=hR.drew;replace zG:=zG.drew;replace zP:=zP.drew;replace zX:=zX.drew;replace hw:=au hw;have hdr:wc.drew.heap.size=wc.heap.size:=rfl;have hS:=trivial;replace hS:=HSK.out _ zG zX zP;refine aY (fun W'=>(LL W' w1.heap.size 3 vi∧LL W' w1.heap.size 4 vl)∧LL W' P 0 (O pid)∧(LL W' X 0 (O xk)∧LL W' X 1 (O xn)∧LL W' X 2 (.string xs)∧LL W' X 3 (.slice E1 xi.length f1)∧LL W' X 4 (.slice E2 xl.length f2))) 12 (by kernel_rfl) ?_;apply tkL 0 hS;apply tkL 1 hS;apply tkL 2 hS;apply tkL 3 hS;apply tkL 6 hS;apply tkL 7 hS;apply tkL 8 hS
            try simp only[pu]
            refine jc (i:=4) (j:=9) rfl rfl (by kernel_rfl) (fun K hK=>?_) (fun K hK=>?_)
            rotate_left
            go_simp;have hZ2:=Box.Cq hw 65 (VV xk xn xs E1 xi f1 E2 xl f2)
            try simp only[World.size_alloc] at hZ2
            replace hR:=hR.alloc (.cells (VV xk xn xs E1 xi f1 E2 xl f2).toArray 65);replace zG:=zG.alloc (.cells (VV xk xn xs E1 xi f1 E2 xl f2).toArray 65);replace zP:=zP.alloc (.cells (VV xk xn xs E1 xi f1 E2 xl f2).toArray 65)
            (first | (replace zX:=zX.alloc (.cells (VV xk xn xs E1 xi f1 E2 xl f2).toArray 65)) | (replace zX:=zX.grown hg5 hnX))
            (first | (replace hZ1:=hZ1.alloc (.cells (VV xk xn xs E1 xi f1 E2 xl f2).toArray 65)) | skip)
            replace hw:=hw.alloc hw.size (.cells (VV xk xn xs E1 xi f1 E2 xl f2).toArray 65);replace hS:=HSK.out _ zG zX zP;refine hK.out _ _ (fun _=>hS) ?_
            try simp only[pu]
            refine anq 4 (fun K hK=>?_)
            all_goals
             go_simp;have hZ1:=Box.Cq hw 3 [O pid]
             try simp only[World.size_alloc] at hZ1
             replace hR:=hR.alloc (.cells #[O pid] 3);replace zG:=zG.alloc (.cells #[O pid] 3);replace zP:=zP.alloc (.cells #[O pid] 3)
             (first | (replace zX:=zX.alloc (.cells #[O pid] 3)) | (replace zX:=zX.grown hg5 hnX))
             (first | (replace hZ2:=hZ2.alloc (.cells #[O pid] 3)) | skip)
             replace hw:=hw.alloc hw.size (.cells #[O pid] 3);replace hS:=HSK.out _ zG zX zP;refine hK.out _ _ (fun _=>hS) ?_
             try simp only[pu]
            refine anq 5 (fun K hK=>?_)
            rotate_left
            refine jc (i:=5) (j:=9) rfl rfl (by kernel_rfl) (fun K hK=>?_) (fun K hK=>?_)
            rotate_left
            go_simp;have hZ2:=Box.Cq hw 65 (VV xk xn xs E1 xi f1 E2 xl f2)
            try simp only[World.size_alloc] at hZ2
            replace hR:=hR.alloc (.cells (VV xk xn xs E1 xi f1 E2 xl f2).toArray 65);replace zG:=zG.alloc (.cells (VV xk xn xs E1 xi f1 E2 xl f2).toArray 65);replace zP:=zP.alloc (.cells (VV xk xn xs E1 xi f1 E2 xl f2).toArray 65)
            (first | (replace zX:=zX.alloc (.cells (VV xk xn xs E1 xi f1 E2 xl f2).toArray 65)) | (replace zX:=zX.grown hg5 hnX))
            (first | (replace hZ1:=hZ1.alloc (.cells (VV xk xn xs E1 xi f1 E2 xl f2).toArray 65)) | skip)
            replace hw:=hw.alloc hw.size (.cells (VV xk xn xs E1 xi f1 E2 xl f2).toArray 65);replace hS:=HSK.out _ zG zX zP;refine hK.out _ _ (fun _=>hS) ?_
            try simp only[pu]
            refine anq 5 (fun K hK=>?_)
            all_goals
             refine dM _ rfl (.tmp 119) (.tmp 122) rfl qh aQ.fair rfl rfl hR.ids (Src.one (es:=[O pid]) (y:=pid) rfl (gI.bK rfl) rfl hZ1.lies) (NoT.lt _) (by go_light;simp;omega) hR.hb ?_;intro v1 wk1 ho1 hg1 hv1;have hR':=hR.Fh ho1 hg1 hv1;replace zG:=zG.fU hR.ids (by first | exact .inl (by go_light;omega) | exact .inr (by decide)) hg1;replace zP:=zP.fU hR.ids (by first | exact .inl (by go_light;omega) | exact .inr (by decide)) hg1
             (first | (replace zX:=zX.fU hR.ids (by first | exact .inl (by go_light;omega) | exact .inr (by decide)) hg1) | (replace zX:=zX.grown hg5 hnX))
             (first | (replace hZ2:=hZ2.fU hR.ids (.inr (by decide)) hg1) | skip)
             replace hw:=below_grown hw hg1 hw.size (fun g' h=>by go_light;have:=(hR.ilt h).1;omega);replace hR:=hR';clear hR';replace hS:=HSK.out _ zG zX zP;refine hK.out _ _ (fun _=>hS) ?_
             try simp only[pu]
             apply tkL 11 hS
             try simp only[pu]
            rotate_right
            refine anq 9 (fun K hK=>?_);go_simp;have hZ2:=Box.Cq hw 65 (VV xk xn xs E1 xi f1 E2 xl f2)
            try simp only[World.size_alloc] at hZ2
            replace hR:=hR.alloc (.cells (VV xk xn xs E1 xi f1 E2 xl f2).toArray 65);replace zG:=zG.alloc (.cells (VV xk xn xs E1 xi f1 E2 xl f2).toArray 65);replace zP:=zP.alloc (.cells (VV xk xn xs E1 xi f1 E2 xl f2).toArray 65)
            (first | (replace zX:=zX.alloc (.cells (VV xk xn xs E1 xi f1 E2 xl f2).toArray 65)) | (replace zX:=zX.grown hg5 hnX))
            (first | (replace hZ1:=hZ1.alloc (.cells (VV xk xn xs E1 xi f1 E2 xl f2).toArray 65)) | skip)
            replace hw:=hw.alloc hw.size (.cells (VV xk xn xs E1 xi f1 E2 xl f2).toArray 65);replace hS:=HSK.out _ zG zX zP;refine hK.out _ _ (fun _=>hS) ?_
            try simp only[pu]
            all_goals
             refine anq 10 (fun K hK=>?_);refine dM _ rfl (.tmp 125) (.tmp 127) rfl nJ aA.fair rfl rfl hR.Tp (Src.one (es:=(VV xk xn xs E1 xi f1 E2 xl f2)) (y:=aj.mk xk xn xs xi xl) rfl (gI.bK rfl) (hR.QV (aA.fair.keep HXr.out (by first | exact(((az.drew _ _).trans (az.alloc _ _ _)).trans (az.bH hg1 hn1)).trans (az.alloc _ _ _) | exact(((az.drew _ _).trans (az.alloc _ _ _)).trans (az.alloc _ _ _)).trans (az.bH hg1 hn1))) ?ap) hZ2.lies) (fun _ h=>h.2) (by go_light;simp;omega) hR.hb ?_
             case ap =>
              rintro y ⟨hy1,hy2⟩;refine⟨by go_light;omega,fun e=>?_,fun e=>?_,by go_light;omega⟩
              ·rcases hv1 with h | h
               ·exact absurd (hvB y (h ▸ e)) (by go_light;omega)
               ·rw[h] at e;have e':=Option.some.inj e;simp at e';omega
              ·exact absurd (hlB y e) (by go_light;omega)
             intro v5 w5 ho5 hg5 hv5;have hR':=hR.zA ho5 hg5 hv5;replace zG:=zG.fU hR.l (by first | exact .inl (by go_light;omega) | exact .inr (by decide)) hg5;replace zP:=zP.fU hR.l (by first | exact .inl (by go_light;omega) | exact .inr (by decide)) hg5
             (first | (replace zX:=zX.fU hR.l (by first | exact .inl (by go_light;omega) | exact .inr (by decide)) hg5) | (replace zX:=zX.grown hg5 hnX))
             replace hw:=below_grown hw hg5 hw.size (fun g' h=>by go_light;have:=(hR.llt h).1;omega);replace hR:=hR';clear hR';replace hS:=HSK.out _ zG zX zP;have fz3:=zG.frozen 3;have cz3:=zG.c 3 rfl;have fz4:=zG.frozen 4;have cz4:=zG.c 4 rfl;have lz:=zG.lt;obtain⟨R1,p1,rfl,_⟩:=hR.ids.form;obtain⟨R2,p2,rfl,_⟩:=hR.l.form;refine hK.out _ _ (fun _=>hS) ?_
             try simp only[pu]
             refine anq 12 (fun K hK=>?_);go_simp;refine hK.out _ _ nay ?_
             try simp only[pu]
             refine anq 13 (fun K hK=>?_);go_simp;refine hK.out _ _ nay ?_
             try simp only[pu]
             refine anq 14 (fun K hK=>?_);go_simp;refine hK.out _ _ nay ?_
             try simp only[pu]
             refine ani ?_ _;simp only[List.length_append,List.length_map,List.length_cons,List.length_nil,Nat.zero_add] at hR;replace hR:=(hR.setCell 3 (.slice R1 (ai.length+1) p1)).setCell 4 (.slice R2 (al.length+1) p2);replace zG:=(zG.gB 3 (.slice R1 (ai.length+1) p1)).gB 4 (.slice R2 (al.length+1) p2);simp only[List.set_cons_zero,List.set_cons_succ,List.length_append,List.length_map,List.length_cons,List.length_nil,Nat.zero_add] at zG
             skip
             skip
             replace hw:=(hw.setCell (p:=⟨w1.heap.size,3,none⟩) (by first | (simp;done) | (simp;omega)) (.slice R1 (ai.length+1) p1)).setCell (p:=⟨w1.heap.size,4,none⟩) (by first | (simp;done) | (simp;omega)) (.slice R2 (al.length+1) p2);clear hS fz3 cz3 fz4 cz4 lz hg5 hv5 ho5 hg1 hv1 ho1;go_wp2_with fail;have hq:=Hq.out;have hll:=Hll.out
             go_roundg (gk-1)
             case measure=>go_light;omega
             case rel=>exact⟨q+1,ai++[pid],al++[.mk xk xn xs xi xl],_,_,by go_num,by go_light;omega,Hgo,by go_light;simp;omega,by go_light;simp;omega,hR,zG,hw⟩
        ·have Hno:=hidL (show r=(.zero,fi) from by rw[Hr.out,Hst.out,if_pos hfi0];simp[hfi0]);have hcb:(fi != 0)=true:=by simpa using hfi0
         obtain⟨r0,r1,r2,r3,r4,g0,g1,g2,g3,g4,hlr⟩:=(aV).rr5;have hwb:=aa hw1 hwf hw1.size;clear hfi0;go_wp2_with fail;change bodyPost _ _ _ _ _ (setCells w3 (w.heap.size+1+1) 0 [O 0,O 0,E0,Z0,Z0]);have hb5:=aV.setCells [O 0,O 0,E0,Z0,Z0] rfl;have hw5:=below_setCells (g:=(w.heap.size+1+1)) (by go_light;omega) [O 0,O 0,E0,Z0,Z0] 0 _ hwb;generalize setCells w3 (w.heap.size+1+1) 0 _=W5 at hb5 hw5 ⊢;rw[Hno.out];exact bodyPost_ret (wV hb5 rfl rfl) rfl ⟨_,rfl,aA.zero,hw5⟩
   ·have hdr:ps.drop q=[]:=List.drop_eq_nil_of_le (by go_light;omega);rw[hdr,gm] at he;have Hfin:Hid (r=(kz b 4 t ai al,0)):=by
     show _=_;rw[Hr.out,←he.out];simp
    have hal:al.length≤q:=by have:=hll;go_light;omega
    have HRd0:=hidL (hR.read (S:=(fun y=>w1.heap.size+1≤y)) (fun y hy=>hy) (fun y hy=>hy) (by go_light;omega) (by go_light;omega) 2 0 ⟨#[]⟩);obtain⟨R1,p1,rfl,_⟩:=hR.ids.form;obtain⟨R2,p2,rfl,_⟩:=hR.l.form;obtain⟨fv,hfv⟩:=exE (kz b 4 t ai al);have hcall:=fun (h0:RSl 5 96 ah S wr [.slice A b.length cap] b) (h1:ah S wr (TT t A1 k1 A2 k2 A3 k3) t)=>acG S (fun y=>w1.heap.size+1≤y) _ b HG.out _ _ t 2 0 ⟨#[]⟩ ai al wr h0 h1 HM.out HRd0.out hll (by go_light;omega)
    rw[←hfv] at hcall Hfin;have Hcall:=hidL hcall;have HBe:=hidL ((RSl.fair ah.fair).below HB1.out hw);have HTe:=hidL (ah.fair.below HT1.out hw);obtain⟨t0,t1,t2,t3,t4⟩:=zT.five;obtain⟨e0,e1,e2,e3,e4⟩:=zG.five;have b0:LL wr w.heap.size 0 (.slice A b.length cap):=zB.cell 0;have hlB:=zB.lt;have hlT:=zT.lt;have hlG:=zG.lt;have hws:=hw.size;clear hcall hfv he hR zB zT zG hdr hll hq Hq Hll;go_wp2_with fail;refine(Hcall.out HBe.out HTe.out).mono ?_;rintro e w4 ⟨cs4,rfl,hr4,hb4⟩;obtain⟨vk,vn,vs,vids,vls⟩:=fv;obtain⟨D1,f1,D2,f2,rfl,-,-⟩:=hr4.parts;have sV:=zR.below hb4 zR.lt;have hwb:=aa hw1 (aa hw hb4 hw.size) hw1.size;have Hr4:=hidL hr4;have Hws:=hidL hws;obtain⟨r0,r1,r2,r3,r4,g0,g1,g2,g3,g4,hlr⟩:=(sV).rr5;clear t0 t1 t2 t3 t4 e0 e1 e2 e3 e4 b0 hlB hlT hlG hr4 HBe HTe Hcall zR hb4 hw HRd0 hws;go_wp2_with fail;change bodyPost _ _ _ _ _ (setCells w4 (w.heap.size+1+1) 0 (VV vk vn vs D1 vids f1 D2 vls f2));have hb5:=sV.setCells (VV vk vn vs D1 vids f1 D2 vls f2) rfl;have hw5:=below_setCells (g:=(w.heap.size+1+1)) (by go_light;omega) (VV vk vn vs D1 vids f1 D2 vls f2) 0 _ hwb;have hrd:aA (New w) (setCells w4 (w.heap.size+1+1) 0 (VV vk vn vs D1 vids f1 D2 vls f2)) (VV vk vn vs D1 vids f1 D2 vls f2) (.mk vk vn vs vids vls) :=
     aA.fair.mono (aA.fair.keep Hr4.out (az.setCells (by have:=Hws.out;rintro(h | h) <;> (go_light;omega)) _ _ _)) (fun y hy _=>by
      have:=Hws.out;show w.heap.size≤y;rcases hy with h | h
      ·have h':w1.heap.size+1≤y:=h;go_light;omega
      ·go_light;omega)
    generalize setCells w4 (w.heap.size+1+1) 0 _=W5 at hb5 hw5 hrd ⊢;rw[Hfin.out];exact bodyPost_ret (wV hb5 rfl rfl) rfl ⟨_,rfl,hrd,hw5⟩
 ·have hcb:(dc != 0)=true:=by simpa using hdc
  rw[if_pos hdc] at Hr;have Hno:=hidL Hr.out;clear hdc;obtain⟨r0,r1,r2,r3,r4,g0,g1,g2,g3,g4,hlr⟩:=(y3).rr5;go_wp2_with fail;change bodyPost _ _ _ _ _ (setCells w1 (w.heap.size+1+1) 0 [O 0,O 0,E0,Z0,Z0]);have hb5:=y3.setCells [O 0,O 0,E0,Z0,Z0] rfl;have hw5:=below_setCells (g:=(w.heap.size+1+1)) (by go_light;omega) [O 0,O 0,E0,Z0,Z0] 0 _ hw1;generalize setCells w1 (w.heap.size+1+1) 0 _=W5 at hb5 hw5 ⊢;rw[Hno.out];exact bodyPost_ret (wV hb5 rfl rfl) rfl ⟨_,rfl,aA.zero,hw5⟩
theorem MU (S:Nat→Prop)(vb:Value)(b:av)(hg:aB b=0):∀ (k:Nat),aem S vb b k
 | 0=>Ws S vb b
 | k+1=>YH S vb b hg k (MU S vb b hg k)
end
section
open Go.Proofs.Tryz
open Go.RowKit
theorem om {W:World}{a:Act}{g:Nat}{c0 c1 c2 c3 c4:Value}{n:Int}(hb:Box W g 65 [c0,c1,c2,c3,c4])(h4:a.tmps.getD 6 undef=.pointer (some ⟨g,0,none⟩))(h5:a.tmps.getD 7 undef=O n) :
  (results f45 a.tmps).run prog W=.ok (.tuple #[.agg #[c0,c1,c2,c3,c4],O n]) W:=by
 obtain⟨e0,e1,e2,e3,e4⟩:=hb.five;simp only[Array.getD_eq_getD_getElem?] at h4 h5;simp[results,results45,go_sem,h4,h5,e0,e1,e2,e3,e4]
theorem mr (S:Nat→Prop)(vb:Value)(b:av)(name s:ByteArray)(w:World)(hb0:RSl 5 96 ah S w [vb] b)(hW:Words w)(hB:aS b)(hs:s.size≤maxLen) :
  Calls prog 45 #[.agg #[vb],.string name,.string s] w (jf w (fZ b name (bytes s))):=by
 obtain⟨A,cap,rfl,hlc,hlb⟩:=hb0.form;obtain⟨r,hrr⟩:=exE (fZ b name (bytes s));have hr0:r=if aB b≠0 then (.zero,1) else if dW b name=true then (.zero,3) else if (iN b 24 (typeOf b name) (bytes s)).2≠0 then (.zero,(iN b 24 (typeOf b name) (bytes s)).2)
   else if jA (iN b 24 (typeOf b name) (bytes s)).1=false then (.zero,7) else ((iN b 24 (typeOf b name) (bytes s)).1,0):=hrr
 have hrun:aB b=0→dW b name=false→∀ W cst,RSl 5 96 ah S W [.slice A b.length cap] b→ah S W cst (typeOf b name)→Calls prog 88 #[.agg #[.slice A b.length cap],.agg cst.toArray,.string s,O 1] W (jf W (iN b 24 (typeOf b name) (bytes s))):=fun hg hn W cst h0 h1=>by
  obtain⟨t,q1,q2,q3,q4,q5⟩:=gK hn;rw[q2] at h1 ⊢;exact MU S _ b hg 24 1 cst t s W (by simp) (by omega) h0 h1 q3 (by rw[q4];exact q1) q5 hs
 have hsz:aB b=0→dW b name=false→aW (iN b 24 (typeOf b name) (bytes s)).1≤240012∧aD (iN b 24 (typeOf b name) (bytes s)).1≤29:=fun hg hn=>EP hg hn _
 rw[←hrr];obtain⟨dv,hdv⟩:=exE (fun t=>iN b 24 t (bytes s));have hdv':∀ t,iN b 24 t (bytes s)=dv t:=fun t=>by rw[hdv]
 simp only[hdv'] at hr0 hrun hsz;obtain⟨gd,hgd⟩:=exE (aB b);have hgood:=fun W (h0:RSl 5 96 ah S W [.slice A b.length cap] b) (h1:Words W)=>kS S _ b W h0 h1 hB
 rw[←hgd] at hr0 hrun hsz hgood;rw[AQ] at hr0 hrun hsz;have Hr:=hidL hr0;have Hrun:=hidL (And.intro hrun hsz);have Hgood:=hidL hgood;have HB:=hidL hb0;have HW:=hidL hW;clear hrr hr0 hrun hsz hdv hdv' hgd hgood hs;obtain⟨x1,x2,x3⟩:=bY w [.slice A b.length cap] [O 0,O 0,E0,Z0,Z0] 38 65;clear hb0 hW hB;go_enter func45,ntmps45;go_wp2_with fail;refine(gH S _ b name _ ((RSl.fair ah.fair).below HB.out x3)).mono ?_;rintro e w1 ⟨cs3,rfl,hr3,hb1⟩;obtain⟨B1,l1,B2,l2,B3,l3,rfl,-,-,-⟩:=hr3.parts;have hw1:=aa x3 hb1 x3.size;have y1:=x1.below hb1 x1.lt;have y2:=x2.below hb1 x2.lt;obtain⟨ty,hty⟩:=exE (typeOf b name);have hty':(aM b name).getD ax.zero=ty:=hty.symm;rw[hty'] at hr3 ⊢;rw[←hty] at Hr Hrun;obtain⟨ok,hok⟩:=exE ((aM b name).isSome);rw[←hok] at Hr Hrun ⊢;have hw2:=hw1.alloc hw1.size (.cells (TT ty B1 l1 B2 l2 B3 l3).toArray 53);have z1:=y1.alloc (.cells (TT ty B1 l1 B2 l2 B3 l3).toArray 53);have z2:=y2.alloc (.cells (TT ty B1 l1 B2 l2 B3 l3).toArray 53);have z3:Box (w1.alloc (.cells (TT ty B1 l1 B2 l2 B3 l3).toArray 53)) w1.heap.size 53 (TT ty B1 l1 B2 l2 B3 l3):=Box.new w1 _ _;have HR3:=hidL (ah.fair.keep hr3 ((az.of_below hb1).trans (az.alloc S w1 (.cells (TT ty B1 l1 B2 l2 B3 l3).toArray 53))));have s0:LL w1 w.heap.size 0 (.slice A b.length cap):=y1.cell 0;have hl1:=y1.lt;clear hb1 hty hty' hok hr3 x1 x2 x3;go_wp2_with fail;refine(Hgood.out _ ((RSl.fair ah.fair).below HB.out hw2) (HW.out.below hw2)).mono ?_;rintro e w3 ⟨rfl,hb3⟩;have hw3:=aa hw2 hb3 hw2.size;have v1:=z1.below hb3 z1.lt;have v2:=z2.below hb3 z2.lt;have v3:=z3.below hb3 z3.lt;have HR4:=hidL (ah.fair.keep HR3.out (az.of_below hb3));obtain⟨t0,t1,t2,t3,t4⟩:=v3.five;obtain⟨r0,r1,r2,r3,r4,g0,g1,g2,g3,g4,hlr⟩:=(v2).rr5;have hl3:=v3.lt;have s1:LL w3 w.heap.size 0 (.slice A b.length cap):=v1.cell 0;have hl1':=v1.lt;clear hb3 z1 z2 z3 HR3 hw2 s0 hl1
 by_cases hg:gd=0
 ·subst hg;rw[if_neg (by simp)] at Hr;obtain⟨tyn,tye,tyf,tyg,tyi⟩:=ty;dsimp only at Hr Hrun t0 t1 t2 t3 t4;cases ok with
  | false =>
   simp only[Bool.not_false,Bool.true_or,if_true] at Hr;have Hno:=Hr;go_wp2_with fail;change bodyPost _ _ _ _ _ (setCells w3 (w.heap.size+1) 0 [O 0,O 0,E0,Z0,Z0]);have hb5:=v2.setCells [O 0,O 0,E0,Z0,Z0] rfl;have hw5:=below_setCells (g:=(w.heap.size+1)) (by go_light;omega) [O 0,O 0,E0,Z0,Z0] 0 _ hw3;generalize setCells w3 (w.heap.size+1) 0 _=W5 at hb5 hw5 ⊢;rw[Hno.out];exact bodyPost_ret (om hb5 rfl rfl) rfl ⟨_,rfl,aA.zero,hw5⟩
  | true =>
   cases tye with
   | true =>
    simp only[Bool.not_true,Bool.false_or,if_true] at Hr;have Hno:=Hr;go_wp2_with fail;change bodyPost _ _ _ _ _ (setCells w3 (w.heap.size+1) 0 [O 0,O 0,E0,Z0,Z0]);have hb5:=v2.setCells [O 0,O 0,E0,Z0,Z0] rfl;have hw5:=below_setCells (g:=(w.heap.size+1)) (by go_light;omega) [O 0,O 0,E0,Z0,Z0] 0 _ hw3;generalize setCells w3 (w.heap.size+1) 0 _=W5 at hb5 hw5 ⊢;rw[Hno.out];exact bodyPost_ret (om hb5 rfl rfl) rfl ⟨_,rfl,aA.zero,hw5⟩
   | false =>
    simp only[Bool.not_true,Bool.false_or,Bool.false_eq_true,if_false] at Hr;have Hcall:=hidL (Hrun.out.1 rfl (by simp) w3 _ ((RSl.fair ah.fair).below HB.out hw3) HR4.out);have Hsz:=hidL (Hrun.out.2 rfl (by simp));go_wp2_with fail;refine Hcall.out.mono ?_;rintro e w5 ⟨cs5,rfl,hr5,hb5⟩;obtain⟨⟨⟨vk,vn,vs,vids,vls⟩,dc⟩,hvd⟩:∃ d,d=dv ⟨tyn,false,tyf,tyg,tyi⟩:=⟨_,rfl⟩;rw[←hvd] at hr5 Hr Hsz ⊢;dsimp only at hr5 Hr Hsz ⊢;obtain⟨D1,f1,D2,f2,rfl,-,-⟩:=hr5.parts;have hw5:=aa hw3 hb5 hw3.size;have p2:=v2.below hb5 v2.lt;have hwv:=hw5.alloc hw5.size (.cells (VV vk vn vs D1 vids f1 D2 vls f2).toArray 65);have q2:=p2.alloc (.cells (VV vk vn vs D1 vids f1 D2 vls f2).toArray 65);have qv:Box (w5.alloc (.cells (VV vk vn vs D1 vids f1 D2 vls f2).toArray 65)) w5.heap.size 65 (VV vk vn vs D1 vids f1 D2 vls f2):=Box.new w5 _ _;have Hrv:=hidL (aA.fair.keep hr5 (az.alloc _ w5 (.cells (VV vk vn vs D1 vids f1 D2 vls f2).toArray 65)));have hsz3:=And.intro hw3.size v2.lt;have Hsz3:=hidL hsz3;clear t0 t1 t2 t3 t4 r0 r1 r2 r3 r4 g0 g1 g2 g3 g4 hlr hl3 s1 hl1' hvd hr5 hb5 Hcall HR4 v1 v2 v3 hsz3
    by_cases hdc:dc=0
    ·subst hdc;rw[if_neg (by simp)] at Hr;go_wp2_with fail;generalize hWv:w5.alloc (.cells (VV vk vn vs D1 vids f1 D2 vls f2).toArray 65)=Wv at *;generalize hV:w5.heap.size=V at *;clear hWv hV;have hcs:=Ut (New w3) _ (.mk vk vn vs vids vls) Wv Hrv.out (by have:=Hsz.out.2;omega) (by have:=Hsz.out.1;omega);obtain⟨sm,hsm⟩:=exE (jA (.mk vk vn vs vids vls));rw[←hsm] at hcs Hr;have Hcs:=hidL hcs;obtain⟨u0,u1,u2,u3,u4⟩:=qv.five;have hlv:=qv.lt;clear hcs hsm;go_wp2_with fail;refine Hcs.out.mono ?_;rintro e w6 ⟨rfl,hb6⟩;have hw6:=aa hwv hb6 hwv.size;have m2:=q2.below hb6 q2.lt;have mv:=qv.below hb6 qv.lt;have Hr6:=hidL (aA.fair.below Hrv.out hb6);clear u0 u1 u2 u3 u4 hlv hb6 Hcs q2 qv hwv Hrv;obtain⟨u0,u1,u2,u3,u4⟩:=mv.five;have hlv:=mv.lt;obtain⟨r0,r1,r2,r3,r4,g0,g1,g2,g3,g4,hlr⟩:=(m2).rr5;cases sm with
     | false =>
      rw[if_pos rfl] at Hr;have Hno:=Hr;go_wp2_with fail;change bodyPost _ _ _ _ _ (setCells w6 (w.heap.size+1) 0 [O 0,O 0,E0,Z0,Z0]);have hb5:=m2.setCells [O 0,O 0,E0,Z0,Z0] rfl;have hw5:=below_setCells (g:=(w.heap.size+1)) (by go_light;omega) [O 0,O 0,E0,Z0,Z0] 0 _ hw6;generalize setCells w6 (w.heap.size+1) 0 _=W5 at hb5 hw5 ⊢;rw[Hno.out];exact bodyPost_ret (om hb5 rfl rfl) rfl ⟨_,rfl,aA.zero,hw5⟩
     | true =>
      rw[if_neg (by simp)] at Hr;go_wp2_with fail;change bodyPost _ _ _ _ _ (setCells w6 (w.heap.size+1) 0 (VV vk vn vs D1 vids f1 D2 vls f2));have hb5:=m2.setCells (VV vk vn vs D1 vids f1 D2 vls f2) rfl;have hw5':=below_setCells (g:=(w.heap.size+1)) (by go_light;omega) (VV vk vn vs D1 vids f1 D2 vls f2) 0 _ hw6;have hrd:aA (New w) (setCells w6 (w.heap.size+1) 0 (VV vk vn vs D1 vids f1 D2 vls f2)) (VV vk vn vs D1 vids f1 D2 vls f2) (.mk vk vn vs vids vls) :=
       aA.fair.mono (aA.fair.keep Hr6.out (az.setCells (by have:=Hsz3.out;unfold New;go_light;omega) _ _ _)) (fun y hy _=>by have:=Hsz3.out;unfold New at *;go_light;omega)
      generalize setCells w6 (w.heap.size+1) 0 _=W5 at hb5 hw5' hrd ⊢;rw[Hr.out];exact bodyPost_ret (om hb5 rfl rfl) rfl ⟨_,rfl,hrd,hw5'⟩
    ·have hcb:(dc != 0)=true:=by simpa using hdc
     rw[if_pos hdc] at Hr;have Hno:=Hr;clear hdc;obtain⟨r0,r1,r2,r3,r4,g0,g1,g2,g3,g4,hlr⟩:=(q2).rr5;go_wp2_with fail;change bodyPost _ _ _ _ _ (setCells (w5.alloc (.cells (VV vk vn vs D1 vids f1 D2 vls f2).toArray 65)) (w.heap.size+1) 0 [O 0,O 0,E0,Z0,Z0]);have hb5:=q2.setCells [O 0,O 0,E0,Z0,Z0] rfl;have hw5:=below_setCells (g:=(w.heap.size+1)) (by go_light;omega) [O 0,O 0,E0,Z0,Z0] 0 _ hwv;generalize setCells (w5.alloc (.cells (VV vk vn vs D1 vids f1 D2 vls f2).toArray 65)) (w.heap.size+1) 0 _=W5 at hb5 hw5 ⊢;rw[Hno.out];exact bodyPost_ret (om hb5 rfl rfl) rfl ⟨_,rfl,aA.zero,hw5⟩
 ·have hgb:(gd != 0)=true:=by simpa using hg
  rw[if_pos hg] at Hr;have Hno:=Hr;clear hg;go_wp2_with fail;change bodyPost _ _ _ _ _ (setCells w3 (w.heap.size+1) 0 [O 0,O 0,E0,Z0,Z0]);have hb5:=v2.setCells [O 0,O 0,E0,Z0,Z0] rfl;have hw5:=below_setCells (g:=(w.heap.size+1)) (by go_light;omega) [O 0,O 0,E0,Z0,Z0] 0 _ hw3;generalize setCells w3 (w.heap.size+1) 0 _=W5 at hb5 hw5 ⊢;rw[Hno.out];exact bodyPost_ret (om hb5 rfl rfl) rfl ⟨_,rfl,aA.zero,hw5⟩
theorem xE {b:av}(hg:aB b=0):∀ (d:Nat) (v:aj) (t:ax),aD v≤d→dU b t→cz b t v=0→okV v
 | 0,.mk _ _ _ _ _,_,hd,_,_=>by rw[aD] at hd;omega
 | d+1,.mk kind n s ids l,t,hd,hm,ht=>by
  obtain⟨a1,a2,a3,a4,a5,a6,a7,a8⟩:=(iO b t _).1 ht;simp only[aj.kind,aj.ids,aj.l,aj.n,aj.s] at a1 a2 a3 a4 a5 a6 a7 a8;rw[aD] at hd;rw[okV];refine⟨by omega,RH fun x hx=>?_⟩;obtain⟨i,hi,rfl⟩:=List.getElem_of_mem hx;have hz:(ids[i]'(by omega),l[i])∈ids.zip l:=List.mem_iff_getElem.2 ⟨i,by simp;omega,by simp⟩;have hfit:=a7 _ hz;obtain⟨f,hff⟩:=Option.isSome_iff_exists.1 (a5 (ids[i]'(by omega)) (List.getElem_mem _));unfold vR at hfit;simp only[hff,Option.getD_some] at hfit;have hf:=bC hm (bE hff).1;have hdx:=gG hx
  by_cases h5:f.kind=5
  ·obtain⟨t2,_,h2,_,_,_,hm2⟩:=gZ hg hf h5;exact xE hg d l[i] t2 (by omega) hm2 (h2 ▸ hfit.2 h5)
  ·obtain⟨hk,ho⟩:=ja hfit.1;obtain⟨o1,o2,o3⟩:=rD.1 ho;generalize hxe:l[i]=x at *;obtain⟨xk,xn,xs,xi,xl⟩:=x;simp only[aj.kind,aj.ids,aj.l,aj.n,aj.s] at hk o1 o2 o3;have hk2:xk≠2:=by
    by_cases h3:f.kind=3
    ·rw[hk,kindOf,if_pos h3];decide
    ·rw[hk,kindOf,if_neg h3,if_neg h5];decide
   obtain⟨rfl,rfl⟩:=o1 hk2;rw[okV];refine⟨?_,trivial⟩
   by_cases h1:xk=1
   ·have h3:f.kind=3:=by
     by_cases h3:f.kind=3
     ·exact h3
     ·rw[h1,kindOf,if_neg h3,if_neg h5] at hk;simp at hk
    have hp:=hfit.1;unfold eO at hp;rw[if_neg (by simp[aj.kind,hk]),if_neg (by rw[ho];decide),if_neg (by omega),if_neg (by omega),if_pos h3] at hp;split at hp
    ·rename_i hp1
     unfold qG at hp1;have h40:xs.size≤40:=of_decide_eq_true ((Bool.and_eq_true _ _).mp hp1).2;omega
    ·simp at hp
   ·have:=o3 h1;omega
theorem su {b:av}{name:ByteArray}{v:aj}(h:dQ b name v=0):okV v∧aD v≤24∧aW v≤400:=by
 obtain⟨hg,hn,hs,ht⟩:=nX h;obtain⟨t,_,e2,hm,_,he⟩:=gK hn;rw[e2] at ht;exact⟨xE hg (aD v) v t (Nat.le_refl _) (bq hg hm he) ht,pR.1 hs⟩
end
end Go.Proofs.YtknnhpkjgnkcdaaGreatDoor
