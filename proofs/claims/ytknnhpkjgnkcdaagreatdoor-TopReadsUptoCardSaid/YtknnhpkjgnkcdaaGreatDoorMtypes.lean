/- Walks and plain laws. -/
import Derived.Test.YtknnhpkjgnkcdaaGreatDoorMwalks
import Derived.Deep.CutBlock
set_option linter.all false
set_option maxRecDepth 100000
set_option maxHeartbeats 8000000
namespace Go.Proofs.YtknnhpkjgnkcdaaGreatDoor
open Go.Proofs.Tryz
open Go.RowKit
theorem Ak (w:World):w.drew.heap.size=w.heap.size:=rfl
theorem aaz {a w:World}(h:Below a.heap.size a w):Box (w.alloc (.cells #[.bool false,.bool false,O 0,E0,E0,O 0,O 0,E0] 198)) w.heap.size 198 [.bool false,.bool false,O 0,E0,E0,O 0,O 0,E0]∧a.heap.size≤w.heap.size∧Below a.heap.size a (w.alloc (.cells #[.bool false,.bool false,O 0,E0,E0,O 0,O 0,E0] 198)):=⟨Box.new _ _ _,h.size,h.alloc h.size _⟩
def afd (w:World)(T:ax)(L:List aX)(e:Ending)(w':World):Prop :=
 ∃ cs vl,e=.returned (.tuple #[.agg cs.toArray,vl])∧ah (New w) w' cs T∧RSl 3 32 aU (New w) w' [vl] L∧Below w.heap.size w w'
theorem TJ {W:World}{a:Act}{g:Nat}{c0 c1 c2 c3 c4 vl:Value}(hb:Box W g 53 [c0,c1,c2,c3,c4])(h4:a.tmps.getD 8 undef=.pointer (some ⟨g,0,none⟩))(h5:a.tmps.getD 9 undef=vl) :
  (results f130 a.tmps).run prog W=.ok (.tuple #[.agg #[c0,c1,c2,c3,c4],vl]) W:=by
 obtain⟨e0,e1,e2,e3,e4⟩:=hb.five;simp only[Array.getD_eq_getD_getElem?] at h4 h5;simp[results,results130,go_sem,h4,h5,e0,e1,e2,e3,e4]
theorem agf (S:Nat→Prop)(va vb vc:Value)(was a b:av)(name:ByteArray)(w:World)(h1:RSl 5 96 ah S w [va] was)(h2:RSl 5 96 ah S w [vb] a)(h3:RSl 5 96 ah S w [vc] b)
  (hx:(typeOf was name).items.length≤100) (hy:(typeOf a name).items.length≤100) (hz:(typeOf b name).items.length≤100) :
  Calls prog 130 #[.agg #[va],.agg #[vb],.agg #[vc],.string name] w (afd w (yo (typeOf was name) (typeOf a name) (typeOf b name) name) (zD (typeOf was name) (typeOf a name) (typeOf b name) name)):=by
 obtain⟨x,hxe⟩:=exE (typeOf was name);obtain⟨y,hye⟩:=exE (typeOf a name);obtain⟨z,hze⟩:=exE (typeOf b name);obtain⟨fr,hfr⟩:=exE (yo x y z name);obtain⟨lr,hlr⟩:=exE (zD x y z name);rw[←hxe] at hx ⊢;rw[←hye] at hy ⊢;rw[←hze] at hz ⊢;rw[←hfr,←hlr];have Hxe:=hidL hxe;have Hye:=hidL hye;have Hze:=hidL hze;have Hfr:=hidL hfr;have Hlr:=hidL hlr;clear hxe hye hze hfr hlr;obtain⟨A1,k1,rfl,hlc1,_⟩:=h1.form;obtain⟨A2,k2,rfl,hlc2,_⟩:=h2.form;obtain⟨A3,k3,rfl,hlc3,_⟩:=h3.form;obtain⟨x1,x2,x3,x4,x5⟩:=rQ w [.slice A1 was.length k1] [.slice A2 a.length k2] [.slice A3 b.length k3] [E0,.bool false,Z0,Z0,Z0] 38 38 38 53;have HA:=hidL ((RSl.fair ah.fair).old h1);have HB:=hidL ((RSl.fair ah.fair).old h2);have HC:=hidL ((RSl.fair ah.fair).old h3);have Hx:=hidL hx;have Hy:=hidL hy;have Hz:=hidL hz;have c0:=x1.cell 0;have hl0:=x1.lt;simp only[List.getElem?_cons_zero] at c0;clear h1 h2 h3 hx hy hz hlc1 hlc2 hlc3;go_enter func130,ntmps130;go_wp2_with fail;refine(gH (Old w) _ was name _ ((RSl.fair ah.fair).below HA.out x5)).mono ?_;rintro e w1 ⟨cs1,rfl,hr1,hb1⟩;have hr1':ah (Old w) w1 cs1 (typeOf was name):=ah.fair.below hr1 hb1;rw[←Hxe.out] at hr1';obtain⟨P1,Pa,P2,Pb,P3,Pc,rfl,-,-,-⟩:=hr1'.parts;have hw1:=aa x5 hb1 x5.size;have y1:=x2.below hb1 x2.lt;have y2:=x3.below hb1 x3.lt;have y3:=x4.below hb1 x4.lt;have HX:=hidL hr1';have hl8':w.heap.size+1+1+1<w1.heap.size:=(x4.below hb1 x4.lt).lt;clear hr1 hr1' x1 x2 x3 x4 c0 hl0 hb1;have z0:=Box.new w1 53 (TT x P1 Pa P2 Pb P3 Pc);have v1:=y1.alloc (.cells (TT x P1 Pa P2 Pb P3 Pc).toArray 53);have v2:=y2.alloc (.cells (TT x P1 Pa P2 Pb P3 Pc).toArray 53);have v3:=y3.alloc (.cells (TT x P1 Pa P2 Pb P3 Pc).toArray 53);have hwa:=hw1.alloc hw1.size (.cells (TT x P1 Pa P2 Pb P3 Pc).toArray 53);have c0:=y1.cell 0;have hl0:=y1.lt;simp only[List.getElem?_cons_zero] at c0;clear y1 y2 y3;go_wp2_with fail;refine(gH (Old w) _ a name _ ((RSl.fair ah.fair).below HB.out hwa)).mono ?_;rintro e w2 ⟨cs2,rfl,hr2,hb2⟩;have hr2':ah (Old w) w2 cs2 (typeOf a name):=ah.fair.below hr2 hb2;rw[←Hye.out] at hr2';obtain⟨Q1,Qa,Q2,Qb,Q3,Qc,rfl,-,-,-⟩:=hr2'.parts;have hw2:=aa hwa hb2 hwa.size;have hwb:=hw2.alloc hw2.size (.cells (TT y Q1 Qa Q2 Qb Q3 Qc).toArray 53);have u2:=(v2.below hb2 v2.lt).alloc (.cells (TT y Q1 Qa Q2 Qb Q3 Qc).toArray 53);have u3:=(v3.below hb2 v3.lt).alloc (.cells (TT y Q1 Qa Q2 Qb Q3 Qc).toArray 53);have z1:=(z0.below hb2 z0.lt).alloc (.cells (TT y Q1 Qa Q2 Qb Q3 Qc).toArray 53);have s1:=Box.new w2 53 (TT y Q1 Qa Q2 Qb Q3 Qc);have HY:=hidL hr2';replace HX:=hidL (ah.fair.below (ah.fair.keep HX.out (az.alloc (Old w) w1 (.cells (TT x P1 Pa P2 Pb P3 Pc).toArray 53))) hb2);clear c0 hl0;have c0:=(v2.below hb2 v2.lt).cell 0;have hl0:=(v2.below hb2 v2.lt).lt;simp only[List.getElem?_cons_zero] at c0;have hlx:w1.heap.size<w2.heap.size:=(z0.below hb2 z0.lt).lt;clear hr2 hr2' hb2 v1 v2 v3 z0;go_wp2_with fail;refine(gH (Old w) _ b name _ ((RSl.fair ah.fair).below HC.out hwb)).mono ?_;rintro e w3 ⟨cs3,rfl,hr3,hb3⟩;have hr3':ah (Old w) w3 cs3 (typeOf b name):=ah.fair.below hr3 hb3;rw[←Hze.out] at hr3';obtain⟨R1,Ra,R2,Rb,R3,Rc,rfl,-,-,-⟩:=hr3'.parts;have hw3:=aa hwb hb3 hwb.size;have hwc:=hw3.alloc hw3.size (.cells (TT z R1 Ra R2 Rb R3 Rc).toArray 53);have t3:=(u3.below hb3 u3.lt).alloc (.cells (TT z R1 Ra R2 Rb R3 Rc).toArray 53);have z2:=(z1.below hb3 z1.lt).alloc (.cells (TT z R1 Ra R2 Rb R3 Rc).toArray 53);have s2:=(s1.alloc (.cells (TT y Q1 Qa Q2 Qb Q3 Qc).toArray 53));have q2:=((Box.new w2 53 (TT y Q1 Qa Q2 Qb Q3 Qc)).below hb3 (Box.new w2 53 (TT y Q1 Qa Q2 Qb Q3 Qc)).lt).alloc (.cells (TT z R1 Ra R2 Rb R3 Rc).toArray 53);have r2:=Box.new w3 53 (TT z R1 Ra R2 Rb R3 Rc);have HZ:=hidL hr3';replace HX:=hidL (ah.fair.below (ah.fair.keep HX.out (az.alloc (Old w) w2 (.cells (TT y Q1 Qa Q2 Qb Q3 Qc).toArray 53))) hb3);replace HY:=hidL (ah.fair.below (ah.fair.keep HY.out (az.alloc (Old w) w2 (.cells (TT y Q1 Qa Q2 Qb Q3 Qc).toArray 53))) hb3);have hly:w2.heap.size<w3.heap.size:=((Box.new w2 53 (TT y Q1 Qa Q2 Qb Q3 Qc)).below hb3 (Box.new w2 53 (TT y Q1 Qa Q2 Qb Q3 Qc)).lt).lt;clear hr3 hr3' hb3 u2 u3 z1 s1 s2 c0 hl0;have t3':=t3.alloc (.cells #[.string name,.bool false,Z0,Z0,Z0] 53);have z2':=z2.alloc (.cells #[.string name,.bool false,Z0,Z0,Z0] 53);have q2':=q2.alloc (.cells #[.string name,.bool false,Z0,Z0,Z0] 53);have r2':=r2.alloc (.cells #[.string name,.bool false,Z0,Z0,Z0] 53);have p2':=Box.new (w3.alloc (.cells (TT z R1 Ra R2 Rb R3 Rc).toArray 53)) 53 [.string name,.bool false,Z0,Z0,Z0];have hwd:=hwc.alloc hwc.size (.cells #[.string name,.bool false,Z0,Z0,Z0] 53);simp only[World.size_alloc] at p2';clear t3 z2 q2 r2 hwc hwa hwb hw2 hw1 x5;go_wp2_with fail;replace HX:=hidL (ah.fair.keep (ah.fair.keep HX.out (az.alloc (Old w) _ (.cells (TT z R1 Ra R2 Rb R3 Rc).toArray 53))) (az.alloc (Old w) _ (.cells #[.string name,.bool false,Z0,Z0,Z0] 53)));replace HY:=hidL (ah.fair.keep (ah.fair.keep HY.out (az.alloc (Old w) _ (.cells (TT z R1 Ra R2 Rb R3 Rc).toArray 53))) (az.alloc (Old w) _ (.cells #[.string name,.bool false,Z0,Z0,Z0] 53)));replace HZ:=hidL (ah.fair.keep (ah.fair.keep HZ.out (az.alloc (Old w) _ (.cells (TT z R1 Ra R2 Rb R3 Rc).toArray 53))) (az.alloc (Old w) _ (.cells #[.string name,.bool false,Z0,Z0,Z0] 53)));have hlt1:w3.heap.size+1<((w3.alloc (.cells (TT z R1 Ra R2 Rb R3 Rc).toArray 53)).alloc (.cells #[.string name,.bool false,Z0,Z0,Z0] 53)).heap.size:=p2'.lt;have hbs:((w3.alloc (.cells (TT z R1 Ra R2 Rb R3 Rc).toArray 53)).alloc (.cells #[.string name,.bool false,Z0,Z0,Z0] 53)).heap.size=w3.heap.size+1+1:=by simp
 have hlw:w.heap.size≤w3.heap.size:=hw3.size;have hl8:w.heap.size+1+1+1<w1.heap.size:=hl8';generalize hWd:(w3.alloc (.cells _ 53)).alloc (.cells _ 53)=Wd at *;clear hWd hw3;generalize w1.heap.size=X at *;generalize w2.heap.size=Y at *;generalize w3.heap.size=Z at *;generalize hg8:w.heap.size+1+1+1=g8 at *;have hw8:w.heap.size≤g8:=by omega
 clear hg8;have hbz:Z+1+1≤Wd.heap.size:=by omega
 clear hbs;have TX:=z2';have TY:=q2';have TZ:=r2';have T8:=t3';have TQ:=p2';have hALL:∀ W',RowKit.Below (Z+1) Wd W'→ah (Old w) W' (TT x P1 Pa P2 Pb P3 Pc) x∧ah (Old w) W' (TT y Q1 Qa Q2 Qb Q3 Qc) y∧ah (Old w) W' (TT z R1 Ra R2 Rb R3 Rc) z∧Box W' X 53 (TT x P1 Pa P2 Pb P3 Pc)∧Box W' Y 53 (TT y Q1 Qa Q2 Qb Q3 Qc)∧Box W' Z 53 (TT z R1 Ra R2 Rb R3 Rc)∧Box W' g8 53 [E0,.bool false,Z0,Z0,Z0]:=by
  intro W' h;have hk:az (Old w) Wd W':=⟨h.size,fun g hs _=>h.block g (by have:g<w.heap.size:=hs;omega)⟩;exact⟨ah.fair.keep HX.out hk,ah.fair.keep HY.out hk,ah.fair.keep HZ.out hk,TX.below h (by omega),TY.below h (by omega),TZ.below h (by omega),T8.below h (by omega)⟩
 have HALL:=hidL hALL;clear z2' q2' r2' t3' p2' TX TY TZ T8 hALL HX HY HZ HA HB HC;go_loopw [17,18] (fun vb i wr=>∃ (k:Nat) (F:List ay) (G:List Int) (B:List aX) (vf vg:Value),i=O ((k:Int)+1)∧k≤30∧Hid (F=(jN.take k).flatMap (dL x y z))∧Hid (G=(jN.take k).flatMap (lh x y z))∧Hid (B=(jN.take k).flatMap (nR x y z name)) ∧
   Hid (F.length≤k∧G.length≤k∧B.length≤k)∧TB (Z+1+1) wr vf vg (Z0) vb F G [] B∧Box wr (Z+1) 53 [.string name,.bool false,vf,vg,Z0]∧RowKit.Below (Z+1) Wd wr) (fun _ i _=>(31-intOf i).toNat)
 case atStart=>exact⟨0,[],[],[],_,_,rfl,by omega,rfl,rfl,rfl,(show _∧_ by simp),TB.nil _ _,TQ,Below.refl _ _⟩
 case round =>
  obtain⟨k,F,G,B,vf,vg,rfl,hk,hF,hG0,hBd,hlen,hT,hbt,hb⟩:=hrel;clear TQ;have hlX:X<wr.heap.size:=by have:=hb.size;go_light;omega
  by_cases hlt:k<30
  ·have e1:decide ((k:Int)+1≤30)=true:=by simp;omega
   go_upto_region 9 with fail;obtain⟨id,hid⟩:=exE ((k:Int)+1);have hvs:Z+1≤wr.heap.size:=by have:=hb.size;go_light;omega
   have HV:∀ W',RowKit.Below wr.heap.size wr W'→RowKit.Below (Z+1) Wd W':=fun W' h=>hb.trans (h.mono hvs)
   have hSK:∀ W',RowKit.Below wr.heap.size wr W'→(fun W'=>(LL W' X 0 (.string x.name)∧LL W' X 1 (.bool x.enum)∧LL W' X 2 (.slice P1 x.fields.length Pa)∧LL W' X 3 (.slice P2 x.gone.length Pb)∧LL W' X 4 (.slice P3 x.items.length Pc))∧(LL W' Y 0 (.string y.name)∧LL W' Y 1 (.bool y.enum)∧LL W' Y 2 (.slice Q1 y.fields.length Qa)∧LL W' Y 3 (.slice Q2 y.gone.length Qb)∧LL W' Y 4 (.slice Q3 y.items.length Qc))∧(LL W' Z 0 (.string z.name)∧LL W' Z 1 (.bool z.enum)∧LL W' Z 2 (.slice R1 z.fields.length Ra)∧LL W' Z 3 (.slice R2 z.gone.length Rb)∧LL W' Z 4 (.slice R3 z.items.length Rc))) W':=fun W' h=>⟨(HALL.out W' (HV W' h)).2.2.2.1.five,(HALL.out W' (HV W' h)).2.2.2.2.1.five,(HALL.out W' (HV W' h)).2.2.2.2.2.1.five⟩
   have HSK:=hidL hSK;have Hf1:=hidL (fun W' (h:RowKit.Below wr.heap.size wr W')=>KX (Old w) _ x ((k:Int)+1) W' (HALL.out W' (HV W' h)).1);have Hf2:=hidL (fun W' (h:RowKit.Below wr.heap.size wr W')=>KX (Old w) _ y ((k:Int)+1) W' (HALL.out W' (HV W' h)).2.1);have Hf3:=hidL (fun W' (h:RowKit.Below wr.heap.size wr W')=>KX (Old w) _ z ((k:Int)+1) W' (HALL.out W' (HV W' h)).2.2.1);have hf4:=fun W' (h:RowKit.Below wr.heap.size wr W')=>Fp (bI x ((k:Int)+1)) (bI y ((k:Int)+1)) (bI z ((k:Int)+1)) W'
   obtain⟨r1,hr1⟩:=exE (fT x y z ((k:Int)+1));rw[show iM (bI x ((k:Int)+1)) (bI y ((k:Int)+1)) (bI z ((k:Int)+1))=r1 from hr1.symm] at hf4;obtain⟨⟨th1,en1,⟨a1,a2,a3,a4,a5⟩,it1⟩,ok1⟩:=r1;unfold Ar at hf4;simp only[jr] at hf4;have Hf4:=hidL hf4;have Hr1:=hidL hr1;clear hSK HV hf4 hr1 hid id;go_cut [19,20] from 51 to 64 (fun p s W1=>∃ g,p=.pointer (some ⟨g,0,none⟩)∧s=.bool ok1∧wr.heap.size≤g∧Box W1 g 198 [.bool th1,.bool en1,O a1,.string a2,.string a3,O a4,O a5,.string it1]∧RowKit.Below wr.heap.size wr W1)
   case first =>
    have hB:=au (Below.refl wr.heap.size wr);have hS:=HSK.out _ hB;refine aY (fun W'=>(LL W' X 0 (.string x.name)∧LL W' X 1 (.bool x.enum)∧LL W' X 2 (.slice P1 x.fields.length Pa)∧LL W' X 3 (.slice P2 x.gone.length Pb)∧LL W' X 4 (.slice P3 x.items.length Pc))∧(LL W' Y 0 (.string y.name)∧LL W' Y 1 (.bool y.enum)∧LL W' Y 2 (.slice Q1 y.fields.length Qa)∧LL W' Y 3 (.slice Q2 y.gone.length Qb)∧LL W' Y 4 (.slice Q3 y.items.length Qc))∧(LL W' Z 0 (.string z.name)∧LL W' Z 1 (.bool z.enum)∧LL W' Z 2 (.slice R1 z.fields.length Ra)∧LL W' Z 3 (.slice R2 z.gone.length Rb)∧LL W' Z 4 (.slice R3 z.items.length Rc))) 15 (by kernel_rfl) ?_;generalize wr.drew=Wb at hB hS ⊢;apply tkL 0 hS;apply tkL 1 hS;apply tkL 3 hS;apply tkL 4 hS;apply tkL 6 hS;apply tkL 7 hS
    try simp only[pu]
    refine jc (i:=2) (j:=13) rfl rfl (by kernel_rfl) (fun K hK=>?_) (fun K hK=>?_)
    rotate_left
    go_simp;obtain⟨hG,hGl,hB⟩:=aaz hB
    try simp only[Ak] at hG hGl
    clear hS;have hS:=HSK.out _ hB;refine hK.out _ _ (fun _=>hS) ?_
    try simp only[pu]
    generalize World.alloc _ _=WW at hB hG hS ⊢;refine anq 2 (fun K hK=>?_)
    all_goals
     go_simp;refine(Hf1.out _ hB).mono ?_;rintro e wn ⟨rfl,hbn⟩;replace hB:=aa hB hbn hB.size
     try replace hG:=hG.below hbn hG.lt
     clear hS hbn;have hS:=HSK.out _ hB;refine hK.out _ _ (fun _=>hS) ?_
     try simp only[pu]
    refine anq 5 (fun K hK=>?_)
    rotate_left
    refine jc (i:=5) (j:=13) rfl rfl (by kernel_rfl) (fun K hK=>?_) (fun K hK=>?_)
    rotate_left
    go_simp;obtain⟨hG,hGl,hB⟩:=aaz hB
    try simp only[Ak] at hG hGl
    clear hS;have hS:=HSK.out _ hB;refine hK.out _ _ (fun _=>hS) ?_
    try simp only[pu]
    generalize World.alloc _ _=WW at hB hG hS ⊢;refine anq 5 (fun K hK=>?_)
    all_goals
     go_simp;refine(Hf2.out _ hB).mono ?_;rintro e wn ⟨rfl,hbn⟩;replace hB:=aa hB hbn hB.size
     try replace hG:=hG.below hbn hG.lt
     clear hS hbn;have hS:=HSK.out _ hB;refine hK.out _ _ (fun _=>hS) ?_
     try simp only[pu]
    iterate 2
     refine anq 8 (fun K hK=>?_)
     rotate_left
    refine jc (i:=8) (j:=13) rfl rfl (by kernel_rfl) (fun K hK=>?_) (fun K hK=>?_)
    rotate_left
    go_simp;obtain⟨hG,hGl,hB⟩:=aaz hB
    try simp only[Ak] at hG hGl
    clear hS;have hS:=HSK.out _ hB;refine hK.out _ _ (fun _=>hS) ?_
    try simp only[pu]
    generalize World.alloc _ _=WW at hB hG hS ⊢;refine anq 8 (fun K hK=>?_)
    all_goals
     go_simp;refine(Hf3.out _ hB).mono ?_;rintro e wn ⟨rfl,hbn⟩;replace hB:=aa hB hbn hB.size
     try replace hG:=hG.below hbn hG.lt
     clear hS hbn;have hS:=HSK.out _ hB;refine hK.out _ _ (fun _=>hS) ?_
     try simp only[pu]
    iterate 3
     refine anq 9 (fun K hK=>?_)
     rotate_left
    refine jc (i:=9) (j:=13) rfl rfl (by kernel_rfl) (fun K hK=>?_) (fun K hK=>?_)
    rotate_left
    go_simp;obtain⟨hG,hGl,hB⟩:=aaz hB
    try simp only[Ak] at hG hGl
    clear hS;have hS:=HSK.out _ hB;refine hK.out _ _ (fun _=>hS) ?_
    try simp only[pu]
    generalize World.alloc _ _=WW at hB hG hS ⊢;refine anq 9 (fun K hK=>?_)
    all_goals
     go_simp;refine(Hf4.out _ hB).mono ?_;rintro e wn ⟨rfl,hbn⟩;replace hB:=aa hB hbn hB.size
     try replace hG:=hG.below hbn hG.lt
     clear hS hbn;have hS:=HSK.out _ hB;refine hK.out _ _ (fun _=>hS) ?_
     try simp only[pu]
     apply tkL 10 hS;apply tkL 11 hS;apply tkL 12 hS
     try simp only[pu]
    rotate_right
    refine anq 13 (fun K hK=>?_);go_simp;obtain⟨hG,hGl,hB⟩:=aaz hB
    try simp only[Ak] at hG hGl
    clear hS;have hS:=HSK.out _ hB;refine hK.out _ _ (fun _=>hS) ?_
    try simp only[pu]
    generalize World.alloc _ _=WW at hB hG hS ⊢
    all_goals
     obtain⟨r0,r1,r2,r3,r4,r5,r6,r7,g0,g1,g2,g3,g4,g5,g6,g7,hlr⟩:=(hG).rr8;refine anq 14 (fun K hK=>?_);go_simp;clear r0 r1 r2 r3 r4 r5 r6 r7 g0 g1 g2 g3 g4 g5 g6 g7;replace hB:=below_setCells hGl [.bool th1,.bool en1,O a1,.string a2,.string a3,O a4,O a5,.string it1] 0 _ hB;replace hG:=hG.setCells [.bool th1,.bool en1,O a1,.string a2,.string a3,O a4,O a5,.string it1] rfl;clear hS hlr;change K _ (setCells _ _ 0 [.bool th1,.bool en1,O a1,.string a2,.string a3,O a4,O a5,.string it1]);generalize setCells _ _ 0 [.bool th1,.bool en1,O a1,.string a2,.string a3,O a4,O a5,.string it1]=W5 at hB hG ⊢;have hS:=HSK.out _ hB;refine hK.out _ _ (fun _=>hS) ?_
     try simp only[pu]
     refine anq 15 (fun K hK=>?_);go_simp;refine hK.out _ _ nay ?_
     try simp only[pu]
     refine ani ?_ _;go_wp2;go_meet
     case rel=>exact⟨_,rfl,rfl,hGl,hG,hB⟩
   case rest =>
    clear HSK Hf1 Hf2 Hf3 Hf4;obtain⟨p1,rfl,rfl,hp1,hG1,hb1⟩:=hcut;obtain⟨V1,hV1⟩:=exE wc;subst hV1;have hbV:=hb.trans (hb1.mono hvs);have hvs1:Z+1≤V1.heap.size:=by have:=hbV.size;go_light;omega
    have hT1:=hT.below hb1;have hbt1:=hbt.below hb1 hbt.lt;have HV:∀ W',RowKit.Below V1.heap.size V1 W'→RowKit.Below (Z+1) Wd W':=fun W' h=>hbV.trans (h.mono hvs1)
    have hSK:∀ W',RowKit.Below V1.heap.size V1 W'→(fun W'=>(LL W' X 0 (.string x.name)∧LL W' X 1 (.bool x.enum)∧LL W' X 2 (.slice P1 x.fields.length Pa)∧LL W' X 3 (.slice P2 x.gone.length Pb)∧LL W' X 4 (.slice P3 x.items.length Pc))∧(LL W' Y 0 (.string y.name)∧LL W' Y 1 (.bool y.enum)∧LL W' Y 2 (.slice Q1 y.fields.length Qa)∧LL W' Y 3 (.slice Q2 y.gone.length Qb)∧LL W' Y 4 (.slice Q3 y.items.length Qc))∧(LL W' Z 0 (.string z.name)∧LL W' Z 1 (.bool z.enum)∧LL W' Z 2 (.slice R1 z.fields.length Ra)∧LL W' Z 3 (.slice R2 z.gone.length Rb)∧LL W' Z 4 (.slice R3 z.items.length Rc))) W':=fun W' h=>⟨(HALL.out W' (HV W' h)).2.2.2.1.five,(HALL.out W' (HV W' h)).2.2.2.2.1.five,(HALL.out W' (HV W' h)).2.2.2.2.2.1.five⟩
    have HSK:=hidL hSK;have Hf1:=hidL (fun W' (h:RowKit.Below V1.heap.size V1 W')=>Qp (Old w) _ x ((k:Int)+1) W' (HALL.out W' (HV W' h)).1);have Hf2:=hidL (fun W' (h:RowKit.Below V1.heap.size V1 W')=>Qp (Old w) _ y ((k:Int)+1) W' (HALL.out W' (HV W' h)).2.1);have Hf3:=hidL (fun W' (h:RowKit.Below V1.heap.size V1 W')=>Qp (Old w) _ z ((k:Int)+1) W' (HALL.out W' (HV W' h)).2.2.1);have hf4:=fun W' (h:RowKit.Below V1.heap.size V1 W')=>Fp (oC x ((k:Int)+1)) (oC y ((k:Int)+1)) (oC z ((k:Int)+1)) W'
    obtain⟨r2,hr2⟩:=exE (gT x y z ((k:Int)+1));rw[show iM (oC x ((k:Int)+1)) (oC y ((k:Int)+1)) (oC z ((k:Int)+1))=r2 from hr2.symm] at hf4;obtain⟨⟨th2,en2,⟨b1,b2,b3,b4,b5⟩,it2⟩,ok2⟩:=r2;unfold Ar at hf4;simp only[jr] at hf4;have Hf4:=hidL hf4;have Hr2:=hidL hr2;clear hSK HV hf4 hr2 hT hbt hb;go_upto_region 10 with fail;go_cut [21,22] from 64 to 77 (fun p s W1=>∃ g,p=.pointer (some ⟨g,0,none⟩)∧s=.bool ok2∧V1.heap.size≤g∧Box W1 g 198 [.bool th2,.bool en2,O b1,.string b2,.string b3,O b4,O b5,.string it2]∧RowKit.Below V1.heap.size V1 W1)
    case first =>
     have hB:=au (Below.refl V1.heap.size V1);have hS:=HSK.out _ hB;refine aY (fun W'=>(LL W' X 0 (.string x.name)∧LL W' X 1 (.bool x.enum)∧LL W' X 2 (.slice P1 x.fields.length Pa)∧LL W' X 3 (.slice P2 x.gone.length Pb)∧LL W' X 4 (.slice P3 x.items.length Pc))∧(LL W' Y 0 (.string y.name)∧LL W' Y 1 (.bool y.enum)∧LL W' Y 2 (.slice Q1 y.fields.length Qa)∧LL W' Y 3 (.slice Q2 y.gone.length Qb)∧LL W' Y 4 (.slice Q3 y.items.length Qc))∧(LL W' Z 0 (.string z.name)∧LL W' Z 1 (.bool z.enum)∧LL W' Z 2 (.slice R1 z.fields.length Ra)∧LL W' Z 3 (.slice R2 z.gone.length Rb)∧LL W' Z 4 (.slice R3 z.items.length Rc))) 15 (by kernel_rfl) ?_;generalize V1.drew=Wb at hB hS ⊢;apply tkL 0 hS;apply tkL 1 hS;apply tkL 3 hS;apply tkL 4 hS;apply tkL 6 hS;apply tkL 7 hS
     try simp only[pu]
     refine jc (i:=2) (j:=13) rfl rfl (by kernel_rfl) (fun K hK=>?_) (fun K hK=>?_)
     rotate_left
     go_simp;obtain⟨hG,hGl,hB⟩:=aaz hB
     try simp only[Ak] at hG hGl
     clear hS;have hS:=HSK.out _ hB;refine hK.out _ _ (fun _=>hS) ?_
     try simp only[pu]
     generalize World.alloc _ _=WW at hB hG hS ⊢;refine anq 2 (fun K hK=>?_)
     all_goals
      go_simp;refine(Hf1.out _ hB).mono ?_;rintro e wn ⟨rfl,hbn⟩;replace hB:=aa hB hbn hB.size
      try replace hG:=hG.below hbn hG.lt
      clear hS hbn;have hS:=HSK.out _ hB;refine hK.out _ _ (fun _=>hS) ?_
      try simp only[pu]
     refine anq 5 (fun K hK=>?_)
     rotate_left
     refine jc (i:=5) (j:=13) rfl rfl (by kernel_rfl) (fun K hK=>?_) (fun K hK=>?_)
     rotate_left
     go_simp;obtain⟨hG,hGl,hB⟩:=aaz hB
     try simp only[Ak] at hG hGl
     clear hS;have hS:=HSK.out _ hB;refine hK.out _ _ (fun _=>hS) ?_
     try simp only[pu]
     generalize World.alloc _ _=WW at hB hG hS ⊢;refine anq 5 (fun K hK=>?_)
     all_goals
      go_simp;refine(Hf2.out _ hB).mono ?_;rintro e wn ⟨rfl,hbn⟩;replace hB:=aa hB hbn hB.size
      try replace hG:=hG.below hbn hG.lt
      clear hS hbn;have hS:=HSK.out _ hB;refine hK.out _ _ (fun _=>hS) ?_
      try simp only[pu]
     iterate 2
      refine anq 8 (fun K hK=>?_)
      rotate_left
     refine jc (i:=8) (j:=13) rfl rfl (by kernel_rfl) (fun K hK=>?_) (fun K hK=>?_)
     rotate_left
     go_simp;obtain⟨hG,hGl,hB⟩:=aaz hB
     try simp only[Ak] at hG hGl
     clear hS;have hS:=HSK.out _ hB;refine hK.out _ _ (fun _=>hS) ?_
     try simp only[pu]
     generalize World.alloc _ _=WW at hB hG hS ⊢;refine anq 8 (fun K hK=>?_)
     all_goals
      go_simp;refine(Hf3.out _ hB).mono ?_;rintro e wn ⟨rfl,hbn⟩;replace hB:=aa hB hbn hB.size
      try replace hG:=hG.below hbn hG.lt
      clear hS hbn;have hS:=HSK.out _ hB;refine hK.out _ _ (fun _=>hS) ?_
      try simp only[pu]
     iterate 3
      refine anq 9 (fun K hK=>?_)
      rotate_left
     refine jc (i:=9) (j:=13) rfl rfl (by kernel_rfl) (fun K hK=>?_) (fun K hK=>?_)
     rotate_left
     go_simp;obtain⟨hG,hGl,hB⟩:=aaz hB
     try simp only[Ak] at hG hGl
     clear hS;have hS:=HSK.out _ hB;refine hK.out _ _ (fun _=>hS) ?_
     try simp only[pu]
     generalize World.alloc _ _=WW at hB hG hS ⊢;refine anq 9 (fun K hK=>?_)
     all_goals
      go_simp;refine(Hf4.out _ hB).mono ?_;rintro e wn ⟨rfl,hbn⟩;replace hB:=aa hB hbn hB.size
      try replace hG:=hG.below hbn hG.lt
      clear hS hbn;have hS:=HSK.out _ hB;refine hK.out _ _ (fun _=>hS) ?_
      try simp only[pu]
      apply tkL 10 hS;apply tkL 11 hS;apply tkL 12 hS
      try simp only[pu]
     rotate_right
     refine anq 13 (fun K hK=>?_);go_simp;obtain⟨hG,hGl,hB⟩:=aaz hB
     try simp only[Ak] at hG hGl
     clear hS;have hS:=HSK.out _ hB;refine hK.out _ _ (fun _=>hS) ?_
     try simp only[pu]
     generalize World.alloc _ _=WW at hB hG hS ⊢
     all_goals
      obtain⟨r0,r1,r2,r3,r4,r5,r6,r7,g0,g1,g2,g3,g4,g5,g6,g7,hlr⟩:=(hG).rr8;refine anq 14 (fun K hK=>?_);go_simp;clear r0 r1 r2 r3 r4 r5 r6 r7 g0 g1 g2 g3 g4 g5 g6 g7;replace hB:=below_setCells hGl [.bool th2,.bool en2,O b1,.string b2,.string b3,O b4,O b5,.string it2] 0 _ hB;replace hG:=hG.setCells [.bool th2,.bool en2,O b1,.string b2,.string b3,O b4,O b5,.string it2] rfl;clear hS hlr;change K _ (setCells _ _ 0 [.bool th2,.bool en2,O b1,.string b2,.string b3,O b4,O b5,.string it2]);generalize setCells _ _ 0 [.bool th2,.bool en2,O b1,.string b2,.string b3,O b4,O b5,.string it2]=W5 at hB hG ⊢;have hS:=HSK.out _ hB;refine hK.out _ _ (fun _=>hS) ?_
      try simp only[pu]
      refine anq 15 (fun K hK=>?_);go_simp;refine hK.out _ _ nay ?_
      try simp only[pu]
      refine ani ?_ _;go_wp2;go_meet
      case rel=>exact⟨_,rfl,rfl,hGl,hG,hB⟩
    case rest =>
     clear HSK Hf1 Hf2 Hf3 Hf4;obtain⟨p2,rfl,rfl,hp2,hG2,hb2⟩:=hcut;obtain⟨V2,hV2⟩:=exE wc;subst hV2;have hbV2:=hbV.trans (hb2.mono hvs1);have hT2:=hT1.below hb2;have hbt2:=hbt1.below hb2 hbt1.lt;have hG1':=hG1.below hb2 hG1.lt;have hsz2:=hbV2.size;clear hT1 hbt1 hG1 hbV hb1 hb2;obtain⟨Sf,cf,rfl,hcf⟩:=hT2.f.form;obtain⟨Sg,cg,rfl,hcg⟩:=hT2.g.form;obtain⟨Sb,cb,rfl,hcb⟩:=hT2.b.form;obtain⟨m0,m1,m2,m3,m4,m5,m6,m7⟩:=hG1'.eight;have n0:LL V2 p2 0 (.bool th2):=hG2.cell 0;have hlm:=hG1'.lt;have hln:=hG2.lt;obtain⟨t0,t1,t2,t3,t4⟩:=hbt2.five;have hlt2:=hbt2.lt;have f2:=hbt2.frozen 2;have f3:=hbt2.frozen 3;have Hlen:=hlen;have hlF:F.length≤k:=Hlen.out.1;have hlG:G.length≤k:=Hlen.out.2.1;have hlB:B.length≤k:=Hlen.out.2.2;clear hG1' hG2 hlen
     by_cases hbad:(!ok1||(th1&&th2))=true
     ·obtain⟨e1,e2,e3⟩:=abP (name:=name) Hr1.out Hr2.out hbad;have HF:=hidL (show F=(jN.take (k+1)).flatMap (dL x y z) by rw[fV _ hlt,e1,List.append_nil];exact hF.out);have HG:=hidL (show G=(jN.take (k+1)).flatMap (lh x y z) by rw[fV _ hlt,e2,List.append_nil];exact hG0.out);have HBd:=hidL (show B++[⟨name,(k:Int)+1,0⟩]=(jN.take (k+1)).flatMap (nR x y z name) by rw[fV _ hlt,e3,←hBd.out]);clear hF hG0 hBd e1 e2 e3 Hr1 Hr2;cases ok1 <;> cases th1 <;> cases th2 <;> simp at hbad
      all_goals clear hbad
      all_goals
       go_wp2_with (at_builtin;go_must (refine bv _ rfl (.tmp 88) (.tmp 92) rfl qF aU.fair rfl rfl (hT2.b.alloc aU.fair _) (Src.one (es:=[.string name,O ((k:Int)+1),O 0]) (y:=aX.mk name ((k:Int)+1) 0) rfl (gI.bK rfl) rfl (ik.newAt (by first | rfl | simp[World.setCell]))) (NoT.lt _) ?_ ?_ ?_))
       ·go_light;(try simp only[List.length_cons,List.length_nil]);omega
       ·go_light;simp only[World.size_alloc];omega
       ·intro v6 w6 ho6 hg6 hv6;have hT6:=(hT2.alloc _).pushB hg6 ho6;have hbt6:=(hbt2.alloc _).fU (hT2.b.alloc aU.fair _) (.inl (by go_light;omega)) hg6;have hb6:=below_grown (hbV2.alloc (by go_light;omega) (.cells #[.string name,O ((k:Int)+1),O 0] 97)) hg6 (by go_light;simp only[World.size_alloc];omega) (fun g' h=>by have:=(hT2.b.lt h).1;go_light;omega);go_wp2;go_roundw
        case rel=>exact⟨k+1,F,G,B++[⟨name,(k:Int)+1,0⟩],_,_,by go_num,by omega,HF,HG,HBd,(show _∧_∧_ by refine⟨?_,?_,?_⟩ <;> (try simp only[List.length_append,List.length_cons,List.length_nil]) <;> omega),hT6,hbt6,hb6⟩
        case measure=>simp[intOf];omega
     ·have hok:ok1=true:=by cases ok1 <;> simp_all
      subst hok;cases th1
      ·cases th2
       ·obtain⟨e1,e2,e3⟩:=aeX (name:=name) Hr1.out Hr2.out rfl rfl;have HF:=hidL (show F=(jN.take (k+1)).flatMap (dL x y z) by rw[fV _ hlt,e1,List.append_nil];exact hF.out);have HG:=hidL (show G=(jN.take (k+1)).flatMap (lh x y z) by rw[fV _ hlt,e2,List.append_nil];exact hG0.out);have HBd:=hidL (show B=(jN.take (k+1)).flatMap (nR x y z name) by rw[fV _ hlt,e3,List.append_nil];exact hBd.out);clear hF hG0 hBd e1 e2 e3 Hr1 Hr2 hbad;go_wp2;go_roundw
        case rel=>exact⟨k+1,F,G,B,_,_,by go_num,by omega,HF,HG,HBd,(show _∧_∧_ by refine⟨?_,?_,?_⟩ <;> (try simp only[List.length_append,List.length_cons,List.length_nil]) <;> omega),hT2,hbt2,hbV2⟩
        case measure=>simp[intOf];omega
       ·obtain⟨e1,e2,e3⟩:=aeB (name:=name) Hr1.out Hr2.out rfl rfl;have HF:=hidL (show F=(jN.take (k+1)).flatMap (dL x y z) by rw[fV _ hlt,e1,List.append_nil];exact hF.out);have HG:=hidL (show G++[(k:Int)+1]=(jN.take (k+1)).flatMap (lh x y z) by rw[fV _ hlt,e2,←hG0.out]);have HBd:=hidL (show B=(jN.take (k+1)).flatMap (nR x y z name) by rw[fV _ hlt,e3,List.append_nil];exact hBd.out);clear hF hG0 hBd e1 e2 e3 Hr1 Hr2 hbad;go_wp2_with (at_builtin;go_must (refine bv _ rfl (.tmp 108) (.tmp 110) rfl qh aQ.fair rfl rfl (hT2.g.alloc aQ.fair _) (Src.one (es:=[O ((k:Int)+1)]) (y:=(k:Int)+1) rfl (gI.bK rfl) rfl (ik.newAt (by first | rfl | simp[World.setCell]))) (NoT.lt _) ?_ ?_ ?_))
        ·go_light;(try simp only[List.length_cons,List.length_nil]);omega
        ·go_light;simp only[World.size_alloc];omega
        ·intro v6 w6 ho6 hg6 hv6;obtain⟨A6,c6,rfl,-⟩:=ho6.form;simp only[List.length_append,List.length_cons,List.length_nil,Nat.zero_add] at ho6;have hT6:=(hT2.alloc _).aly hg6 ho6;have hbt6:=(hbt2.alloc _).fU (hT2.g.alloc aQ.fair _) (.inl (by go_light;omega)) hg6;have hb6:=below_grown (hbV2.alloc (by go_light;omega) (.cells #[O ((k:Int)+1)] 3)) hg6 (by go_light;simp only[World.size_alloc];omega) (fun g' h=>by have:=(hT2.g.lt h).1;go_light;omega);clear t0 t1 t2 t3 t4 f2 f3 hlt2 m0 m1 m2 m3 m4 m5 m6 m7 n0 hlm hln hT2 hbt2;have t3:LL w6 (Z+1) 3 (.slice Sg G.length cg):=hbt6.cell 3;have f3:=hbt6.frozen 3;have hlt6:=hbt6.lt;go_wp2;go_roundw
         case rel =>
          have hbt7:=hbt6.gB 3 (.slice A6 (G.length+1) c6);simp only[List.set_cons_zero,List.set_cons_succ] at hbt7;exact⟨k+1,F,G++[(k:Int)+1],B,_,_,by go_num,by omega,HF,HG,HBd,(show _∧_∧_ by refine⟨?_,?_,?_⟩ <;> (try simp only[List.length_append,List.length_cons,List.length_nil]) <;> omega),hT6.setCell (p:=⟨Z+1,3,none⟩) (.slice A6 (G.length+1) c6) (by go_light;show Z+1<_;omega),hbt7,hb6.setCell (p:=⟨Z+1,3,none⟩) (Nat.le_refl _) _⟩
         case measure=>simp[intOf];omega
      ·have h2f:th2=false:=by cases th2 <;> simp_all
       subst h2f;obtain⟨e1,e2,e3⟩:=abK (name:=name) Hr1.out Hr2.out rfl rfl;dsimp only at e1;have HF:=hidL (show F++[⟨a1,a2,a3,a4,a5⟩]=(jN.take (k+1)).flatMap (dL x y z) by rw[fV _ hlt,e1,←hF.out]);have HG:=hidL (show G=(jN.take (k+1)).flatMap (lh x y z) by rw[fV _ hlt,e2,List.append_nil];exact hG0.out);have HBd:=hidL (show B=(jN.take (k+1)).flatMap (nR x y z name) by rw[fV _ hlt,e3,List.append_nil];exact hBd.out);clear hF hG0 hBd e1 e2 e3 Hr1 Hr2 hbad;go_wp2_with (at_builtin;go_must (refine bv _ rfl (.tmp 98) (.tmp 101) rfl UX aH.fair rfl rfl (hT2.f.alloc aH.fair _) (Src.one (es:=(FF a1 a2 a3 a4 a5)) (y:=ay.mk a1 a2 a3 a4 a5) rfl (gI.bK rfl) rfl (ik.newAt (by first | rfl | simp[World.setCell]))) (NoT.lt _) ?_ ?_ ?_))
       ·go_light;(try simp only[List.length_cons,List.length_nil]);omega
       ·go_light;simp only[World.size_alloc];omega
       ·intro v6 w6 ho6 hg6 hv6;obtain⟨A6,c6,rfl,-⟩:=ho6.form;simp only[List.length_append,List.length_cons,List.length_nil,Nat.zero_add] at ho6;have hT6:=(hT2.alloc _).alB hg6 ho6;have hbt6:=(hbt2.alloc _).fU (hT2.f.alloc aH.fair _) (.inl (by go_light;omega)) hg6;have hb6:=below_grown (hbV2.alloc (by go_light;omega) (.cells (FF a1 a2 a3 a4 a5).toArray 55)) hg6 (by go_light;simp only[World.size_alloc];omega) (fun g' h=>by have:=(hT2.f.lt h).1;go_light;omega);clear t0 t1 t2 t3 t4 f2 f3 hlt2 m0 m1 m2 m3 m4 m5 m6 m7 n0 hlm hln hT2 hbt2;have t2:LL w6 (Z+1) 2 (.slice Sf F.length cf):=hbt6.cell 2;have f2:=hbt6.frozen 2;have hlt6:=hbt6.lt;go_wp2;go_roundw
        case rel =>
         have hbt7:=hbt6.gB 2 (.slice A6 (F.length+1) c6);simp only[List.set_cons_zero,List.set_cons_succ] at hbt7;exact⟨k+1,F++[⟨a1,a2,a3,a4,a5⟩],G,B,_,_,by go_num,by omega,HF,HG,HBd,(show _∧_∧_ by refine⟨?_,?_,?_⟩ <;> (try simp only[List.length_append,List.length_cons,List.length_nil]) <;> omega),hT6.setCell (p:=⟨Z+1,2,none⟩) (.slice A6 (F.length+1) c6) (by go_light;show Z+1<_;omega),hbt7,hb6.setCell (p:=⟨Z+1,2,none⟩) (Nat.le_refl _) _⟩
        case measure=>simp[intOf];omega
  ·have hk30:k=30:=by omega
   subst hk30;have e1:decide ((30:Int)+1≤30)=false:=by decide
   have e30:jN.take 30=jN:=List.take_of_length_le (by rw[Er];omega);have hF2:=hF.out;have hG2:=hG0.out;have hB2:=hBd.out;rw[e30] at hF2 hG2 hB2;have HF:=hidL hF2;have HG:=hidL hG2;have HBd:=hidL hB2;have hll:=hlen.out;have hlB:B.length≤30:=hll.2.2;have hlF:F.length≤30:=hll.1;have hlG:G.length≤30:=hll.2.1;clear hF hG0 hBd hF2 hG2 hB2 hlen hll e30;obtain⟨hx0,hy0,hz0,bx,by_,bz,b8⟩:=HALL.out wr hb;obtain⟨x0,x1,x2,x3,x4⟩:=bx.five;obtain⟨y0,y1,y2,y3,y4⟩:=by_.five;obtain⟨z0,z1,z2,z3,z4⟩:=bz.five;have lx:=bx.lt;have ly:=by_.lt;have lz:=bz.lt;have hwr:=hb.size;obtain⟨N,hN⟩:=exE (dE [x,y,z]);have hnl:([x,y,z].flatMap fun t=>t.items.map (·.n)).length≤300:=by
    have h1:=Hx.out;have h2:=Hy.out;have h3:=Hz.out;simp only[List.flatMap_cons,List.flatMap_nil,List.append_nil,List.length_append,List.length_map];omega
   have hNl:N.length≤300:=by
    rw[hN];unfold dE;exact Nat.le_trans (xh _) (by rw[Bb];exact hnl)
   have HNL:=hidL hNl;have bw:=Box.new wr 53 [.string x.name,.bool x.enum,.slice P1 x.fields.length Pa,.slice P2 x.gone.length Pb,.slice P3 x.items.length Pc,.string y.name,.bool y.enum,.slice Q1 y.fields.length Qa,.slice Q2 y.gone.length Qb,.slice Q3 y.items.length Qc,.string z.name,.bool z.enum,.slice R1 z.fields.length Ra,.slice R2 z.gone.length Rb,.slice R3 z.items.length Rc];have hka:az (Old w) wr (wr.alloc (.cells #[.string x.name,.bool x.enum,.slice P1 x.fields.length Pa,.slice P2 x.gone.length Pb,.slice P3 x.items.length Pc,.string y.name,.bool y.enum,.slice Q1 y.fields.length Qa,.slice Q2 y.gone.length Qb,.slice Q3 y.items.length Qc,.string z.name,.bool z.enum,.slice R1 z.fields.length Ra,.slice R2 z.gone.length Rb,.slice R3 z.items.length Rc] 53)):=az.alloc _ _ _;have hrs:RSl 5 96 ah (fun _=>True) (wr.alloc (.cells #[.string x.name,.bool x.enum,.slice P1 x.fields.length Pa,.slice P2 x.gone.length Pb,.slice P3 x.items.length Pc,.string y.name,.bool y.enum,.slice Q1 y.fields.length Qa,.slice Q2 y.gone.length Qb,.slice Q3 y.items.length Qc,.string z.name,.bool z.enum,.slice R1 z.fields.length Ra,.slice R2 z.gone.length Rb,.slice R3 z.items.length Rc] 53)) [.slice (some ⟨wr.heap.size,0,none⟩) 3 3] [x,y,z]:=RSl.rP (css:=[(TT x P1 Pa P2 Pb P3 Pc),(TT y Q1 Qa Q2 Qb Q3 Qc),(TT z R1 Ra R2 Rb R3 Rc)]) (xs:=[x,y,z]) bw rfl trivial (by simp) (by simp) (by
    intro q t cs ht hcs;have hq:q=0∨q=1∨q=2:=by
     have:q < [x,y,z].length:=by
      rcases Nat.lt_or_ge q [x,y,z].length with h | h
      ·exact h
      ·rw[List.getElem?_eq_none h] at ht;cases ht
     simp only[List.length_cons,List.length_nil] at this;omega
    rcases hq with rfl | rfl | rfl
    ·simp only[List.getElem?_cons_zero,Option.some.injEq] at ht hcs;subst ht;subst hcs;exact⟨rfl,ah.fair.mono (ah.fair.keep hx0 hka) (fun _ _ _=>trivial)⟩
    ·simp only[List.getElem?_cons_zero,List.getElem?_cons_succ,Option.some.injEq] at ht hcs;subst ht;subst hcs;exact⟨rfl,ah.fair.mono (ah.fair.keep hy0 hka) (fun _ _ _=>trivial)⟩
    ·simp only[List.getElem?_cons_zero,List.getElem?_cons_succ,Option.some.injEq] at ht hcs;subst ht;subst hcs;exact⟨rfl,ah.fair.mono (ah.fair.keep hz0 hka) (fun _ _ _=>trivial)⟩)
   have hcall:=aaM _ _ [x,y,z] _ hrs (by omega);rw[←hN] at hcall;have HCN:=hidL hcall;have HN:=hidL hN;have hTa:=hT.alloc (.cells #[.string x.name,.bool x.enum,.slice P1 x.fields.length Pa,.slice P2 x.gone.length Pb,.slice P3 x.items.length Pc,.string y.name,.bool y.enum,.slice Q1 y.fields.length Qa,.slice Q2 y.gone.length Qb,.slice Q3 y.items.length Qc,.string z.name,.bool z.enum,.slice R1 z.fields.length Ra,.slice R2 z.gone.length Rb,.slice R3 z.items.length Rc] 53);have hbta:=hbt.alloc (.cells #[.string x.name,.bool x.enum,.slice P1 x.fields.length Pa,.slice P2 x.gone.length Pb,.slice P3 x.items.length Pc,.string y.name,.bool y.enum,.slice Q1 y.fields.length Qa,.slice Q2 y.gone.length Qb,.slice Q3 y.items.length Qc,.string z.name,.bool z.enum,.slice R1 z.fields.length Ra,.slice R2 z.gone.length Rb,.slice R3 z.items.length Rc] 53);have hba:=hb.alloc (B:=Z+1) (by go_light;omega) (.cells #[.string x.name,.bool x.enum,.slice P1 x.fields.length Pa,.slice P2 x.gone.length Pb,.slice P3 x.items.length Pc,.string y.name,.bool y.enum,.slice Q1 y.fields.length Qa,.slice Q2 y.gone.length Qb,.slice Q3 y.items.length Qc,.string z.name,.bool z.enum,.slice R1 z.fields.length Ra,.slice R2 z.gone.length Rb,.slice R3 z.items.length Rc] 53);have hvfl:=hT.f.form;have hvgl:=hT.g.form;have hvbl:=hT.b.form;have hvb0:∀ g,u17.ownBlock=some g→g<wr.heap.size:=fun g h=>(hT.b.lt h).2
   clear hx0 hy0 hz0 bx by_ bz b8 bw hka hrs hcall hN hNl hnl hT hbt hb;go_wp2_with fail;refine HCN.out.mono ?_;rintro e w4 ⟨vn,rfl,hrn,hb4⟩;obtain⟨An,kn,rfl,hnc,hnb⟩:=hrn.form;have hT4:=hTa.below hb4;have hbt4:=hbta.below hb4 hbta.lt;have hw4:=hba.trans (hb4.mono (by go_light;simp only[World.size_alloc];omega));have hs4:=hb4.size;simp only[World.size_alloc] at hs4;obtain⟨M,hM⟩:=exE (wr.heap.size+1);obtain⟨M4,hM4⟩:=exE w4.heap.size;have hrn2:RSl 1 8 aQ (fun g=>M≤g∧g<M4) w4 [.slice An N.length kn] N:=(RSl.fair aQ.fair).mono hrn (fun g h1 h2=>⟨by rw[hM];unfold New at h1;simpa using h1,by rw[hM4];exact h2⟩);have HRN:=hidL hrn2;have hvb1:∀ g,u17.ownBlock=some g→¬ (M≤g∧g<M4):=fun g h h'=>by have:=hvb0 g h;omega
   have hMZ:Z+1<M:=by omega
   have HVB:=hidL hvb1;clear hrn hrn2 hvb1 hvb0 hTa hbta hba hb4 HCN x0 x1 x2 x3 x4 y0 y1 y2 y3 y4 z0 z1 z2 z3 z4 lx ly lz;go_wp2_with fail;go_loopw [17,119] (fun vb j wj=>∃ (q:Nat) (I:List dC) (B2:List aX) (vi:Value),j=O q∧q≤N.length∧Hid (I=(N.take q).flatMap (iX x y z))∧Hid (B2=B++(N.take q).flatMap (qa x y z name))∧Hid (I.length≤q∧B2.length≤30+q) ∧
     TB (Z+1+1) wj vf vg vi vb F G I B2∧Box wj (Z+1) 53 [.string name,.bool false,vf,vg,vi]∧Hid (∀ g,vi.ownBlock=some g→¬ (M≤g∧g<M4))∧Hid (∀ g,vb.ownBlock=some g→¬ (M≤g∧g<M4))∧Hid (az (fun g=>M≤g∧g<M4) w4 wj)∧RowKit.Below (Z+1) Wd wj) (fun _ j _=>N.length-(intOf j).toNat)
   case atStart=>exact⟨0,[],B,_,rfl,by omega,rfl,(show B=B++_ by simp),(show _∧_ by simp;omega),hT4,hbt4,(show ∀ g,Value.ownBlock (Z0)=some g→_ by intro g h;cases h),HVB,az.refl _ _,hw4⟩
   case round =>
    obtain⟨q,I,B2,vi,rfl,hq,hI,hB2,hlen,hT,hbt,hvi,hvb,hK,hb⟩:=hrel;clear hT4 hbt4 hw4
    by_cases hlq:q<N.length
    ·obtain⟨gn,on,rfl,hSn,hgn⟩:=HRN.out.base (by omega);have hcn:=(HRN.out.flat (enc:=fun x:Int=>[O x]) hlq).keep hK.out hSn;obtain⟨n,hn⟩:=exE (N[q]);rw[←hn] at hcn;have q0:LL wr gn (on+q) (O n):=by have:=hcn.at_ 0 rfl;simpa using this
     have hgl:gn<wr.heap.size:=World.block_lt_of_cell? _ _ q0;have Hn:=hidL hn;clear hcn hn;go_upto_region 20 with fail;have hvs:Z+1≤wr.heap.size:=by have:=hb.size;go_light;omega
     have HV:∀ W',RowKit.Below wr.heap.size wr W'→RowKit.Below (Z+1) Wd W':=fun W' h=>hb.trans (h.mono hvs)
     have hSK:∀ W',RowKit.Below wr.heap.size wr W'→(fun W'=>(LL W' X 0 (.string x.name)∧LL W' X 1 (.bool x.enum)∧LL W' X 2 (.slice P1 x.fields.length Pa)∧LL W' X 3 (.slice P2 x.gone.length Pb)∧LL W' X 4 (.slice P3 x.items.length Pc))∧(LL W' Y 0 (.string y.name)∧LL W' Y 1 (.bool y.enum)∧LL W' Y 2 (.slice Q1 y.fields.length Qa)∧LL W' Y 3 (.slice Q2 y.gone.length Qb)∧LL W' Y 4 (.slice Q3 y.items.length Qc))∧(LL W' Z 0 (.string z.name)∧LL W' Z 1 (.bool z.enum)∧LL W' Z 2 (.slice R1 z.fields.length Ra)∧LL W' Z 3 (.slice R2 z.gone.length Rb)∧LL W' Z 4 (.slice R3 z.items.length Rc))) W':=fun W' h=>⟨(HALL.out W' (HV W' h)).2.2.2.1.five,(HALL.out W' (HV W' h)).2.2.2.2.1.five,(HALL.out W' (HV W' h)).2.2.2.2.2.1.five⟩
     have HSK:=hidL hSK;have Hf1:=hidL (fun W' (h:RowKit.Below wr.heap.size wr W')=>Sn (Old w) _ x n W' (HALL.out W' (HV W' h)).1);have Hf2:=hidL (fun W' (h:RowKit.Below wr.heap.size wr W')=>Sn (Old w) _ y n W' (HALL.out W' (HV W' h)).2.1);have Hf3:=hidL (fun W' (h:RowKit.Below wr.heap.size wr W')=>Sn (Old w) _ z n W' (HALL.out W' (HV W' h)).2.2.1);have hf4:=fun W' (h:RowKit.Below wr.heap.size wr W')=>Fp (mh x n) (mh y n) (mh z n) W'
     obtain⟨r1,hr1⟩:=exE (iT x y z n);rw[show iM (mh x n) (mh y n) (mh z n)=r1 from hr1.symm] at hf4;obtain⟨⟨th1,en1,⟨a1,a2,a3,a4,a5⟩,it1⟩,ok1⟩:=r1;unfold Ar at hf4;simp only[jr] at hf4;have Hf4:=hidL hf4;have Hr1:=hidL hr1;clear hSK HV hf4 hr1;go_cut [25,26] from 123 to 136 (fun p s W1=>∃ g,p=.pointer (some ⟨g,0,none⟩)∧s=.bool ok1∧wr.heap.size≤g∧Box W1 g 198 [.bool th1,.bool en1,O a1,.string a2,.string a3,O a4,O a5,.string it1]∧RowKit.Below wr.heap.size wr W1)
     case first =>
      have hB:=au (Below.refl wr.heap.size wr);have hS:=HSK.out _ hB;refine aY (fun W'=>(LL W' X 0 (.string x.name)∧LL W' X 1 (.bool x.enum)∧LL W' X 2 (.slice P1 x.fields.length Pa)∧LL W' X 3 (.slice P2 x.gone.length Pb)∧LL W' X 4 (.slice P3 x.items.length Pc))∧(LL W' Y 0 (.string y.name)∧LL W' Y 1 (.bool y.enum)∧LL W' Y 2 (.slice Q1 y.fields.length Qa)∧LL W' Y 3 (.slice Q2 y.gone.length Qb)∧LL W' Y 4 (.slice Q3 y.items.length Qc))∧(LL W' Z 0 (.string z.name)∧LL W' Z 1 (.bool z.enum)∧LL W' Z 2 (.slice R1 z.fields.length Ra)∧LL W' Z 3 (.slice R2 z.gone.length Rb)∧LL W' Z 4 (.slice R3 z.items.length Rc))) 15 (by kernel_rfl) ?_;generalize wr.drew=Wb at hB hS ⊢;apply tkL 0 hS;apply tkL 1 hS;apply tkL 3 hS;apply tkL 4 hS;apply tkL 6 hS;apply tkL 7 hS
      try simp only[pu]
      refine jc (i:=2) (j:=13) rfl rfl (by kernel_rfl) (fun K hK=>?_) (fun K hK=>?_)
      rotate_left
      go_simp;obtain⟨hG,hGl,hB⟩:=aaz hB
      try simp only[Ak] at hG hGl
      clear hS;have hS:=HSK.out _ hB;refine hK.out _ _ (fun _=>hS) ?_
      try simp only[pu]
      generalize World.alloc _ _=WW at hB hG hS ⊢;refine anq 2 (fun K hK=>?_)
      all_goals
       go_simp;refine(Hf1.out _ hB).mono ?_;rintro e wn ⟨rfl,hbn⟩;replace hB:=aa hB hbn hB.size
       try replace hG:=hG.below hbn hG.lt
       clear hS hbn;have hS:=HSK.out _ hB;refine hK.out _ _ (fun _=>hS) ?_
       try simp only[pu]
      refine anq 5 (fun K hK=>?_)
      rotate_left
      refine jc (i:=5) (j:=13) rfl rfl (by kernel_rfl) (fun K hK=>?_) (fun K hK=>?_)
      rotate_left
      go_simp;obtain⟨hG,hGl,hB⟩:=aaz hB
      try simp only[Ak] at hG hGl
      clear hS;have hS:=HSK.out _ hB;refine hK.out _ _ (fun _=>hS) ?_
      try simp only[pu]
      generalize World.alloc _ _=WW at hB hG hS ⊢;refine anq 5 (fun K hK=>?_)
      all_goals
       go_simp;refine(Hf2.out _ hB).mono ?_;rintro e wn ⟨rfl,hbn⟩;replace hB:=aa hB hbn hB.size
       try replace hG:=hG.below hbn hG.lt
       clear hS hbn;have hS:=HSK.out _ hB;refine hK.out _ _ (fun _=>hS) ?_
       try simp only[pu]
      iterate 2
       refine anq 8 (fun K hK=>?_)
       rotate_left
      refine jc (i:=8) (j:=13) rfl rfl (by kernel_rfl) (fun K hK=>?_) (fun K hK=>?_)
      rotate_left
      go_simp;obtain⟨hG,hGl,hB⟩:=aaz hB
      try simp only[Ak] at hG hGl
      clear hS;have hS:=HSK.out _ hB;refine hK.out _ _ (fun _=>hS) ?_
      try simp only[pu]
      generalize World.alloc _ _=WW at hB hG hS ⊢;refine anq 8 (fun K hK=>?_)
      all_goals
       go_simp;refine(Hf3.out _ hB).mono ?_;rintro e wn ⟨rfl,hbn⟩;replace hB:=aa hB hbn hB.size
       try replace hG:=hG.below hbn hG.lt
       clear hS hbn;have hS:=HSK.out _ hB;refine hK.out _ _ (fun _=>hS) ?_
       try simp only[pu]
      iterate 3
       refine anq 9 (fun K hK=>?_)
       rotate_left
      refine jc (i:=9) (j:=13) rfl rfl (by kernel_rfl) (fun K hK=>?_) (fun K hK=>?_)
      rotate_left
      go_simp;obtain⟨hG,hGl,hB⟩:=aaz hB
      try simp only[Ak] at hG hGl
      clear hS;have hS:=HSK.out _ hB;refine hK.out _ _ (fun _=>hS) ?_
      try simp only[pu]
      generalize World.alloc _ _=WW at hB hG hS ⊢;refine anq 9 (fun K hK=>?_)
      all_goals
       go_simp;refine(Hf4.out _ hB).mono ?_;rintro e wn ⟨rfl,hbn⟩;replace hB:=aa hB hbn hB.size
       try replace hG:=hG.below hbn hG.lt
       clear hS hbn;have hS:=HSK.out _ hB;refine hK.out _ _ (fun _=>hS) ?_
       try simp only[pu]
       apply tkL 10 hS;apply tkL 11 hS;apply tkL 12 hS
       try simp only[pu]
      rotate_right
      refine anq 13 (fun K hK=>?_);go_simp;obtain⟨hG,hGl,hB⟩:=aaz hB
      try simp only[Ak] at hG hGl
      clear hS;have hS:=HSK.out _ hB;refine hK.out _ _ (fun _=>hS) ?_
      try simp only[pu]
      generalize World.alloc _ _=WW at hB hG hS ⊢
      all_goals
       obtain⟨r0,r1,r2,r3,r4,r5,r6,r7,g0,g1,g2,g3,g4,g5,g6,g7,hlr⟩:=(hG).rr8;refine anq 14 (fun K hK=>?_);go_simp;clear r0 r1 r2 r3 r4 r5 r6 r7 g0 g1 g2 g3 g4 g5 g6 g7;replace hB:=below_setCells hGl [.bool th1,.bool en1,O a1,.string a2,.string a3,O a4,O a5,.string it1] 0 _ hB;replace hG:=hG.setCells [.bool th1,.bool en1,O a1,.string a2,.string a3,O a4,O a5,.string it1] rfl;clear hS hlr;change K _ (setCells _ _ 0 [.bool th1,.bool en1,O a1,.string a2,.string a3,O a4,O a5,.string it1]);generalize setCells _ _ 0 [.bool th1,.bool en1,O a1,.string a2,.string a3,O a4,O a5,.string it1]=W5 at hB hG ⊢;have hS:=HSK.out _ hB;refine hK.out _ _ (fun _=>hS) ?_
       try simp only[pu]
       refine anq 15 (fun K hK=>?_);go_simp;refine hK.out _ _ nay ?_
       try simp only[pu]
       refine ani ?_ _;go_wp2;go_meet
       case rel=>exact⟨_,rfl,rfl,hGl,hG,hB⟩
     case rest =>
      clear HSK Hf1 Hf2 Hf3 Hf4;obtain⟨p1,rfl,rfl,hp1,hG1,hb1⟩:=hcut;obtain⟨V2,hV2⟩:=exE wc;subst hV2;have hbV2:=hb.trans (hb1.mono hvs);have hT2:=hT.below hb1;have hbt2:=hbt.below hb1 hbt.lt;have hK2:=hK.out.trans (az.of_below hb1);have hsz2:=hbV2.size;have hM2:M4≤V2.heap.size:=by rw[hM4];exact hK2.1
      have HK:=hidL hK2;have hMZ2:=hMZ;clear hT hbt hb hb1 hK hK2;obtain⟨Si,ci,rfl,hci⟩:=hT2.i.form;obtain⟨Sb,cb,rfl,hcb⟩:=hT2.b.form;have n0:LL V2 p1 0 (.bool th1):=hG1.cell 0;have n7:LL V2 p1 7 (.string it1):=hG1.cell 7;have hln:=hG1.lt;have t4:LL V2 (Z+1) 4 (.slice Si I.length ci):=hbt2.cell 4;have hlt2:=hbt2.lt;have f4:=hbt2.frozen 4;have hlI:I.length≤q:=hlen.out.1;have hlB2:B2.length≤30+q:=hlen.out.2;have hnl2:N.length≤300:=HNL.out;clear hG1 hlen;have hst1:=sJ N (iX x y z) hlq;have hst2:=sJ N (qa x y z name) hlq;rw[←Hn.out] at hst1 hst2;cases ok1
      ·obtain⟨e1,e2⟩:=ahJ (name:=name) Hr1.out;have HI2:=hidL (show I=(N.take (q+1)).flatMap (iX x y z) by rw[hst1,e1,List.append_nil];exact hI.out);have HB2:=hidL (show B2++[⟨name,n,0⟩]=B++(N.take (q+1)).flatMap (qa x y z name) by rw[hst2,e2,←List.append_assoc,←hB2.out]);clear hst1 hst2 e1 e2 hI hB2 Hr1;go_wp2_with (at_builtin;go_must (refine bv _ rfl (.tmp 138) (.tmp 142) rfl qF aU.fair rfl rfl (hT2.b.alloc aU.fair _) (Src.one (es:=[.string name,O n,O 0]) (y:=aX.mk name n 0) rfl (gI.bK rfl) rfl (ik.newAt (by first | rfl | simp[World.setCell]))) (NoT.lt _) ?_ ?_ ?_))
       ·go_light;(try simp only[List.length_cons,List.length_nil]);omega
       ·go_light;simp only[World.size_alloc];omega
       ·intro v6 w6 ho6 hg6 hv6;have hT6:=(hT2.alloc _).pushB hg6 ho6;have hbt6:=(hbt2.alloc _).fU (hT2.b.alloc aU.fair _) (.inl (by go_light;omega)) hg6;have hb6:=below_grown (hbV2.alloc (by go_light;omega) (.cells #[.string name,O n,O 0] 97)) hg6 (by go_light;simp only[World.size_alloc];omega) (fun g' h=>by have:=(hT2.b.lt h).1;go_light;omega);have hK6:=(HK.out.trans (az.alloc _ V2 (.cells #[.string name,O n,O 0] 97))).trans (az.bH hg6 hvb.out);have hv7:∀ g,v6.ownBlock=some g→¬ (M≤g∧g<M4):=fun g h=>by
         rcases hv6 with h' | h'
         ·exact hvb.out g (h' ▸ h)
         ·rw[h'] at h;injection h with h;(try simp only[World.size_alloc] at h);omega
        have HV7:=hidL hv7;have HK6:=hidL hK6;clear hv7 hK6;go_wp2;go_roundw
        case rel=>exact⟨q+1,I,B2++[⟨name,n,0⟩],_,by go_num,by omega,HI2,HB2,(show _∧_ by refine⟨?_,?_⟩ <;> (try simp only[List.length_append,List.length_cons,List.length_nil]) <;> omega),hT6,hbt6,hvi,HV7,HK6,hb6⟩
        case measure=>simp[intOf];omega
      ·cases th1
       ·obtain⟨e1,e2⟩:=aeW (name:=name) Hr1.out rfl;have HI2:=hidL (show I=(N.take (q+1)).flatMap (iX x y z) by rw[hst1,e1,List.append_nil];exact hI.out);have HB2:=hidL (show B2=B++(N.take (q+1)).flatMap (qa x y z name) by rw[hst2,e2,List.append_nil];exact hB2.out);clear hst1 hst2 e1 e2 hI hB2 Hr1;go_wp2;go_roundw
        case rel=>exact⟨q+1,I,B2,_,by go_num,by omega,HI2,HB2,(show _∧_ by refine⟨?_,?_⟩ <;> omega),hT2,hbt2,hvi,hvb,HK,hbV2⟩
        case measure=>simp[intOf];omega
       ·obtain⟨e1,e2⟩:=afb (name:=name) Hr1.out rfl;dsimp only at e1;have HI2:=hidL (show I++[⟨it1,n⟩]=(N.take (q+1)).flatMap (iX x y z) by rw[hst1,e1,←hI.out]);have HB2:=hidL (show B2=B++(N.take (q+1)).flatMap (qa x y z name) by rw[hst2,e2,List.append_nil];exact hB2.out);clear hst1 hst2 e1 e2 hI hB2 Hr1;go_wp2_with (at_builtin;go_must (refine bv _ rfl (.tmp 147) (.tmp 152) rfl aab aO.fair rfl rfl (hT2.i.alloc aO.fair _) (Src.one (es:=[.string it1,O n]) (y:=dC.mk it1 n) rfl (gI.bK rfl) rfl (ik.newAt (by first | rfl | simp[World.setCell]))) (NoT.lt _) ?_ ?_ ?_))
        ·go_light;(try simp only[List.length_cons,List.length_nil]);omega
        ·go_light;simp only[World.size_alloc];omega
        ·intro v6 w6 ho6 hg6 hv6;obtain⟨A6,c6,rfl,-⟩:=ho6.form;simp only[List.length_append,List.length_cons,List.length_nil,Nat.zero_add] at ho6 hv6;have hT6:=(hT2.alloc _).alr hg6 ho6;have hbt6:=(hbt2.alloc _).fU (hT2.i.alloc aO.fair _) (.inl (by go_light;omega)) hg6;have hb6:=below_grown (hbV2.alloc (by go_light;omega) (.cells #[.string it1,O n] 57)) hg6 (by go_light;simp only[World.size_alloc];omega) (fun g' h=>by have:=(hT2.i.lt h).1;go_light;omega);have hK6:=((HK.out.trans (az.alloc _ V2 (.cells #[.string it1,O n] 57))).trans (az.bH hg6 hvi.out)).trans (az.setCell w6 (a:=⟨Z+1,4,none⟩) (.slice A6 (I.length+1) c6) (by show ¬ (M≤Z+1∧_);omega));have hv7:∀ g,(Value.slice A6 (I.length+1) c6).ownBlock=some g→¬ (M≤g∧g<M4):=fun g h=>by
          rcases hv6 with h' | h'
          ·exact hvi.out g (h' ▸ h)
          ·rw[h'] at h;injection h with h;(try simp only[World.size_alloc] at h);omega
         have HV7:=hidL hv7;have HK6:=hidL hK6;clear t4 f4 hlt2 n0 n7 hln hT2 hbt2 hv7 hK6;have t4:LL w6 (Z+1) 4 (.slice Si I.length ci):=hbt6.cell 4;have f4:=hbt6.frozen 4;have hlt6:=hbt6.lt;go_wp2;go_roundw
         case rel =>
          have hbt7:=hbt6.gB 4 (.slice A6 (I.length+1) c6);simp only[List.set_cons_zero,List.set_cons_succ] at hbt7;exact⟨q+1,I++[⟨it1,n⟩],B2,_,by go_num,by omega,HI2,HB2,(show _∧_ by refine⟨?_,?_⟩ <;> (try simp only[List.length_append,List.length_cons,List.length_nil]) <;> omega),hT6.setCell (p:=⟨Z+1,4,none⟩) (.slice A6 (I.length+1) c6) (by go_light;show Z+1<_;omega),hbt7,HV7,hvb,HK6,hb6.setCell (p:=⟨Z+1,4,none⟩) (Nat.le_refl _) _⟩
         case measure=>simp[intOf];omega
    ·have hqe:q=N.length:=by omega
     subst hqe;have hI2:=hI.out;have hBB:=hB2.out;rw[List.take_length] at hI2 hBB;have hfr2:fr=⟨name,false,F,G,I⟩:=by rw[Hfr.out];unfold yo;rw[←HN.out,←HF.out,←HG.out,←hI2]
     have hlr2:lr=B2:=by rw[Hlr.out];unfold zD;rw[←HN.out,←HBd.out];exact hBB.symm
     have hnl2:N.length≤300:=HNL.out;have hlI:I.length≤N.length:=hlen.out.1;have hlB2:B2.length≤30+N.length:=hlen.out.2;have rf:=hT.f.read (S:=fun g=>Z+1+1≤g) (by_:=56) aH.fair (fun _ h=>h.elim) (fun k hk=>(hT.f.lt hk).1) (by omega);have rg:=hT.g.read (S:=fun g=>Z+1+1≤g) (by_:=8) aQ.fair (fun _ h=>h.elim) (fun k hk=>(hT.g.lt hk).1) (by omega);have ri:=hT.i.read (S:=fun g=>Z+1+1≤g) (by_:=24) aO.fair (fun _ h=>h.elim) (fun k hk=>(hT.i.lt hk).1) (by omega);have rb:=hT.b.read (S:=fun g=>Z+1+1≤g) (by_:=32) aU.fair (fun _ h=>h.elim) (fun k hk=>(hT.b.lt hk).1) (by omega);obtain⟨Df,df,rfl,-⟩:=hT.f.form;obtain⟨Dg,dg,rfl,-⟩:=hT.g.form;obtain⟨Di,di,rfl,-⟩:=hT.i.form;obtain⟨Db,db,rfl,-⟩:=hT.b.form;have b8:=(HALL.out wr hb).2.2.2.2.2.2;have hkp:az (fun g=>Z+1+1≤g) wr (setCells wr g8 0 [.string name,.bool false,.slice Df F.length df,.slice Dg G.length dg,.slice Di I.length di]):=az.setCells (by show ¬ (Z+1+1≤g8);omega) _ 0 wr;have h9:=b8.setCells [.string name,.bool false,.slice Df F.length df,.slice Dg G.length dg,.slice Di I.length di] rfl;have hwf:RowKit.Below w.heap.size w (setCells wr g8 0 [.string name,.bool false,.slice Df F.length df,.slice Dg G.length dg,.slice Di I.length di]):=below_setCells (g:=g8) (by omega) _ 0 wr (hwd.trans (hb.mono (by omega)));have hnew:∀ g,Z+1+1≤g→g<(setCells wr g8 0 [.string name,.bool false,.slice Df F.length df,.slice Dg G.length dg,.slice Di I.length di]).heap.size→New w g:=fun g h _=>by unfold New;omega
     have hpost:ah (New w) (setCells wr g8 0 [.string name,.bool false,.slice Df F.length df,.slice Dg G.length dg,.slice Di I.length di]) [.string name,.bool false,.slice Df F.length df,.slice Dg G.length dg,.slice Di I.length di] fr:=by
      rw[hfr2];exact⟨_,_,_,rfl,(RSl.fair aH.fair).mono ((RSl.fair aH.fair).keep rf hkp) hnew,(RSl.fair aQ.fair).mono ((RSl.fair aQ.fair).keep rg hkp) hnew,(RSl.fair aO.fair).mono ((RSl.fair aO.fair).keep ri hkp) hnew⟩
     have hpostb:RSl 3 32 aU (New w) (setCells wr g8 0 [.string name,.bool false,.slice Df F.length df,.slice Dg G.length dg,.slice Di I.length di]) [.slice Db B2.length db] lr:=by
      rw[hlr2];exact(RSl.fair aU.fair).mono ((RSl.fair aU.fair).keep rb hkp) hnew
     have HP:=hidL hpost;have HPB:=hidL hpostb;have HW:=hidL hwf;have H9:=hidL h9;obtain⟨c0,c1,c2,c3,c4⟩:=b8.five;have f0:=b8.frozen 0;have f1:=b8.frozen 1;have f2:=b8.frozen 2;have f3:=b8.frozen 3;have f4:=b8.frozen 4;obtain⟨t0,t1,t2,t3,t4⟩:=hbt.five;have hl8w:=b8.lt;have hltw:=hbt.lt;clear hpost hpostb hwf h9 hkp hnew rf rg ri rb b8 hbt hT hfr2 hlr2 hI2 hBB hI hB2 hlen hvi hvb hK hb;go_wp2_with fail;change bodyPost _ _ _ _ _ (setCells wr g8 0 [.string name,.bool false,.slice Df F.length df,.slice Dg G.length dg,.slice Di I.length di]);exact bodyPost_ret (TJ H9.out rfl rfl) rfl ⟨_,_,rfl,HP.out,HPB.out,HW.out⟩
end Go.Proofs.YtknnhpkjgnkcdaaGreatDoor
