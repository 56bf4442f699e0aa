/- Walks and plain laws. -/
import Derived.Test.YtknnhpkjgnkcdaaGreatDoorMtypes
set_option linter.all false
set_option maxRecDepth 100000
set_option maxHeartbeats 8000000
namespace Go.Proofs.YtknnhpkjgnkcdaaGreatDoor
section
open Go.Proofs.Tryz
open Go.RowKit
theorem OX {α β:Type}{f:α→List β}{c:Nat}(h:∀ x,(f x).length≤c):∀ (l:List α),(l.flatMap f).length≤l.length*c
 | []=>by simp
 | x::l=>by
  have h1:=h x;have h2:=OX h l;rw[List.flatMap_cons,List.length_append,List.length_cons,Nat.add_mul];omega
theorem PL {b:av}(h:aB b=0):b.length≤4:=by
 unfold aB at h;split at h
 ·cases h
 ·omega
theorem kX {b:av}(h:aB b=0)(n:ByteArray):(typeOf b n).items.length≤100:=by
 unfold typeOf;cases hf:aM b n with
 | none=>simp[ax.zero]
 | some t =>
  have hm:=(eU hf).1;show t.items.length≤100;cases he:t.enum with
  | true=>have:=(fE h hm he).2.2.1;omega
  | false=>have:=(bq h hm he).2.1;omega
theorem Qh {was a b:av}(h1:aB was=0)(h2:aB a=0)(h3:aB b=0):([was,a,b].flatMap fun b=>b.map (·.name)).length≤12:=by
 have:=PL h1;have:=PL h2;have:=PL h3;simp only[List.flatMap_cons,List.flatMap_nil,List.append_nil,List.length_append,List.length_map];omega
theorem Dl:∀ (l acc:List ByteArray),(l.foldl vW acc).length≤acc.length+l.length
 | [],acc=>by simp
 | x::l,acc=>by
  rw[List.foldl_cons];have h1:=Dl l (vW acc x);have h2:(vW acc x).length≤acc.length+1:=by unfold vW;split <;> simp
  rw[List.length_cons];omega
theorem Ui {was a b:av}(h1:aB was=0)(h2:aB a=0)(h3:aB b=0):(jl [was,a,b]).length≤12:=by
 unfold jl;rw[Vk];have:=Dl ([was,a,b].flatMap fun b=>b.map (·.name)) [];have:=Qh h1 h2 h3;unfold Uk;simp only[List.length_nil] at *;omega
theorem agX (x y z:ax)(n:ByteArray)(i:Int):(nR x y z n i).length≤1:=by unfold nR;split <;> simp
theorem agT (x y z:ax)(n:ByteArray)(i:Int):(qa x y z n i).length≤1:=by unfold qa;split <;> simp
theorem Xg {was a b:av}(h1:aB was=0)(h2:aB a=0)(h3:aB b=0)(n:ByteArray):(tyL was a b n).length≤330:=by
 unfold tyL zD;have e1:=OX (agX (typeOf was n) (typeOf a n) (typeOf b n) n) jN;have e2:=OX (agT (typeOf was n) (typeOf a n) (typeOf b n) n) (dE [typeOf was n,typeOf a n,typeOf b n]);rw[Er] at e1;have e3:(dE [typeOf was n,typeOf a n,typeOf b n]).length≤300:=by
  unfold dE;refine Nat.le_trans (xh _) ?_;rw[Bb];have:=kX h1 n;have:=kX h2 n;have:=kX h3 n;simp only[List.flatMap_cons,List.flatMap_nil,List.append_nil,List.length_append,List.length_map];omega
 rw[List.length_append];omega
def GH (t:ax):Prop:=gQ t.name∧(∀ f∈t.fields,gQ f.name∧gQ f.type)∧(∀ x∈t.items,gQ x.name)
theorem Ci {b:av}(h:aS b)(n:ByteArray):GH (typeOf b n):=by
 unfold typeOf;cases hf:aM b n with
 | none=>exact⟨(by show gQ ⟨#[]⟩;unfold gQ;decide),by simp[ax.zero],by simp[ax.zero]⟩
 | some t=>exact h t (eU hf).1
theorem akG (x y z:ax)(i:Int):(iT x y z i).1=mh x i∨(iT x y z i).1=mh y i∨(iT x y z i).1=mh z i:=Li _ _ _
theorem Im {t:ax}(h:GH t)(i:Int):gQ (mh t i).item:=by
 unfold mh;cases hf:oQ t i with
 | none=>show gQ ⟨#[]⟩;unfold gQ;decide
 | some x=>exact h.2.2 x (sD hf).1
theorem Ey {t:ax}(h:GH t)(i:Int):gQ (bI t i).field.name∧gQ (bI t i).field.type:=by
 unfold bI;cases hf:aC t i with
 | none=>show gQ ⟨#[]⟩∧gQ ⟨#[]⟩;unfold gQ;decide
 | some f=>exact h.2.1 f (bE hf).1
theorem ZP {x y z:ax}(hx:GH x)(hy:GH y)(hz:GH z){n:ByteArray}(hn:gQ n):GH (yo x y z n):=by
 refine⟨hn,?_,?_⟩
 ·intro f hf;obtain⟨i,_,hi⟩:=List.mem_flatMap.1 (show f∈jN.flatMap (dL x y z) from hf);unfold dL at hi;split at hi
  ·cases hi
  ·split at hi
   ·have e:f=(fT x y z i).1.field:=by simpa using hi
    rw[e];rcases Li (bI x i) (bI y i) (bI z i) with h | h | h
    ·rw[show (fT x y z i).1=bI x i from h];exact Ey hx i
    ·rw[show (fT x y z i).1=bI y i from h];exact Ey hy i
    ·rw[show (fT x y z i).1=bI z i from h];exact Ey hz i
   ·cases hi
 ·intro u hu;obtain⟨i,_,hi⟩:=List.mem_flatMap.1 (show u∈(dE [x,y,z]).flatMap (iX x y z) from hu);unfold iX at hi;split at hi
  ·cases hi
  ·split at hi
   ·have e:u=⟨(iT x y z i).1.item,i⟩:=by simpa using hi
    rw[e];show gQ (iT x y z i).1.item;rcases akG x y z i with h | h | h
    ·rw[h];exact Im hx i
    ·rw[h];exact Im hy i
    ·rw[h];exact Im hz i
   ·cases hi
theorem aid {was a b:av}(h1:aS was)(h2:aS a)(h3:aS b):aS (yA was a b):=by
 intro t ht;obtain⟨n,hn,hi⟩:=List.mem_flatMap.1 ht;have hsn:gQ n:=by
  obtain⟨c,hc,u,hu,rfl⟩:=pQ.1 hn;simp only[List.mem_cons,List.not_mem_nil,or_false] at hc;rcases hc with rfl | rfl | rfl
  ·exact(h1 u hu).1
  ·exact(h2 u hu).1
  ·exact(h3 u hu).1
 unfold fG at hi;split at hi
 ·cases hi
 ·split at hi
  ·cases hi
  ·split at hi
   ·cases hi
   ·split at hi
    ·have e:t=tyT was a b n:=by simpa using hi
     rw[e];exact ZP (Ci h1 n) (Ci h2 n) (Ci h3 n) hsn
    ·cases hi
def OB (base:Nat)(w:World)(vt vb:Value)(acc:List ax)(B:List aX):Prop :=
 ∃ T:Nat→Prop,(∀ g,T g→base≤g∧g<w.heap.size)∧(∀ k,vb.ownBlock=some k→¬ T k)∧Own base 53 5 ah T w vt acc∧Own base 97 3 aU NoT w vb B
section
variable {base:Nat}{w w':World}{vt vb v':Value}{acc:List ax}{B B':List aX}
theorem OB.nil (base:Nat)(w:World):OB base w (Z0) (Z0) [] [] :=
 ⟨fun _=>False,fun _ h=>h.elim,fun _ h=>by simp[Value.ownBlock] at h,Own.dJ _ _ _ _ _ _,Own.dJ _ _ _ _ _ _⟩
theorem OB.below (h:OB base w vt vb acc B)(hb:Below w.heap.size w w'):OB base w' vt vb acc B:=by
 obtain⟨T,h1,h2,h3,h4⟩:=h;exact⟨T,fun g hg=>⟨(h1 g hg).1,Nat.lt_of_lt_of_le (h1 g hg).2 hb.size⟩,h2,h3.below ah.fair hb,h4.below aU.fair hb⟩
theorem OB.alloc (h:OB base w vt vb acc B)(o:Obj):OB base (w.alloc o) vt vb acc B:=h.below ((Below.refl _ _).alloc (Nat.le_refl _) o)
theorem OB.drew (h:OB base w vt vb acc B):OB base w.drew vt vb acc B:=h.below (au (Below.refl _ _))
theorem OB.setCell (h:OB base w vt vb acc B){p:Addr}(u:Value)(hp:p.block<base):OB base (w.setCell p u) vt vb acc B:=by
 obtain⟨T,h1,h2,h3,h4⟩:=h;refine⟨T,fun g hg=>⟨(h1 g hg).1,by simpa[World.setCell] using(h1 g hg).2⟩,h2,h3.setCell ah.fair u (fun e=>by have:=(h3.lt e).1;omega) (fun e=>by have:=(h1 _ e).1;omega),h4.setCell aU.fair u (fun e=>by have:=(h4.lt e).1;omega) (fun h=>h)⟩
theorem OB.b (h:OB base w vt vb acc B):Own base 97 3 aU NoT w vb B:=by obtain⟨_,_,_,_,h⟩:=h;exact h
theorem OB.tlt (h:OB base w vt vb acc B){k:Nat}(hk:vt.ownBlock=some k):base≤k∧k<w.heap.size:=by obtain⟨_,_,_,h,_⟩:=h;exact h.lt hk
theorem OB.alm (h:OB base w vt vb acc B):∃ A cap,vt=.slice A acc.length cap∧acc.length≤cap:=by obtain⟨_,_,_,h,_⟩:=h;exact h.form
theorem OB.pushB (h:OB base w vt vb acc B)(hg:w.grownBy w' vb.ownBlock)(ho:Own base 97 3 aU NoT w' v' B')(hv:v'.ownBlock=vb.ownBlock∨v'.ownBlock=some w.heap.size):OB base w' vt v' acc B':=by
 obtain⟨T,h1,h2,h3,h4⟩:=h;refine⟨T,fun g hg'=>⟨(h1 g hg').1,Nat.lt_of_lt_of_le (h1 g hg').2 hg.size⟩,fun k hk ht=>?_,h3.kept ah.fair hg (h3.ne h4 (by decide)) (fun k hk=>h2 k hk),ho⟩;rcases hv with hv | hv
 ·exact h2 k (hv ▸ hk) ht
 ·rw[hv] at hk;injection hk with hk;have:=(h1 k ht).2;omega
theorem OB.take (h:OB base w vt vb acc B){p q:Nat}{es:List Value}{t:ax}(hr:ah (fun g=>p≤g∧g<q) w es t)(hp:base≤p)(hq:q≤w.heap.size)(ht:∀ k,vt.ownBlock=some k→k<p∨q≤k)(hb:∀ k,vb.ownBlock=some k→k<p∨q≤k) :
  ∃ T:Nat→Prop,(∀ g,T g→base≤g∧g<w.heap.size)∧(∀ k,vb.ownBlock=some k→¬ T k)∧Own base 53 5 ah T w vt acc∧ah T w es t∧Own base 97 3 aU NoT w vb B:=by
 obtain⟨T,h1,h2,h3,h4⟩:=h;have h30:=h3;obtain⟨_,_,_,h3n,_⟩:=h30;refine⟨fun g=>T g∨(p≤g∧g<q),?_,?_,h3.mono ah.fair (fun g hg _=>.inl hg) ?_,ah.fair.mono hr (fun g hg _=>.inr hg),h4⟩
 ·rintro g (hg | hg)
  ·exact h1 g hg
  ·exact⟨by omega,by omega⟩
 ·rintro k hk (hg | hg)
  ·exact h2 k hk hg
  ·have:=hb k hk;omega
 ·rintro k hk (hg | hg)
  ·exact h3n k hk hg
  ·have:=ht k hk;omega
theorem OB.made {T:Nat→Prop}(h1:∀ g,T g→base≤g∧g<w.heap.size)(h2:∀ k,vb.ownBlock=some k→¬ T k)(h3:Own base 53 5 ah T w vt acc)(h4:Own base 97 3 aU NoT w vb B){acc':List ax}(hg:w.grownBy w' vt.ownBlock)(ho:Own base 53 5 ah T w' v' acc'):OB base w' v' vb acc' B :=
 ⟨T,fun g hg'=>⟨(h1 g hg').1,Nat.lt_of_lt_of_le (h1 g hg').2 hg.size⟩,h2,ho,h4.kept aU.fair hg (h4.ne h3 (by decide)) (fun _ _ h=>h)⟩
end
end
section
open Go.Proofs.Tryz
open Go.RowKit
def uq (w:World)(r:av × List aX × Int)(e:Ending)(w':World):Prop :=
 ∃ vo vl,e=.returned (.tuple #[.agg #[vo],vl,O r.2.2])∧bR (New w) w' [vo] r.1∧RSl 3 32 aU (New w) w' [vl] r.2.1∧Below w.heap.size w w'
theorem Gt {W:World}{a:Act}{g:Nat}{c0 vl:Value}{n:Int}(hb:Box W g 38 [c0])(h4:a.tmps.getD 6 undef=.pointer (some ⟨g,0,none⟩))(h5:a.tmps.getD 7 undef=vl)(h6:a.tmps.getD 8 undef=O n) :
  (results f96 a.tmps).run prog W=.ok (.tuple #[.agg #[c0],vl,O n]) W:=by
 have e0:=hb.c 0 rfl;simp only[Array.getD_eq_getD_getElem?] at h4 h5 h6;simp[results,results96,go_sem,h4,h5,h6,e0]
theorem qC {w W:World}{a:Act}{R:av × List aX × Int}{vl:Value}{g:Nat}(hb:Box W g 38 [Z0])(hw:Below w.heap.size w W)(hr:R.1=[])(hl:RSl 3 32 aU (New w) W [vl] R.2.1)
  (h4:a.tmps.getD 6 undef=.pointer (some ⟨g,0,none⟩)) (h5:a.tmps.getD 7 undef=vl) (h6:a.tmps.getD 8 undef=O R.2.2) (hd:a.defers=[]):bodyPost prog f96 (uq w R) .ret a W :=
 bodyPost_ret (Gt hb h4 h5 h6) hd ⟨_,_,rfl,hr ▸ RSl.dJ,hl,hw⟩
theorem aU.ones:pE aU:=by
 rintro S w cs x h;have h':cs=dh x:=h;subst h';exact gI.bK rfl
theorem Src.noT {T:Nat→Prop}{w:World}{A:Option Addr}{ys:List aX}(h:Src 3 aU T w A ys):Src 3 aU NoT w A ys:=h
theorem mE (S:Nat→Prop)(va vb vc:Value)(was a b:av)(w:World)(h1:RSl 5 96 ah S w [va] was)(h2:RSl 5 96 ah S w [vb] a)(h3:RSl 5 96 ah S w [vc] b)(hW:Words w)(o1:aS was)(o2:aS a)(o3:aS b) :
  Calls prog 96 #[.agg #[va],.agg #[vb],.agg #[vc]] w (uq w (fC was a b)):=by
 obtain⟨A1,k1,rfl,hlc1,hlb1⟩:=h1.form;obtain⟨A2,k2,rfl,hlc2,hlb2⟩:=h2.form;obtain⟨A3,k3,rfl,hlc3,hlb3⟩:=h3.form;obtain⟨x1,x2,x3,x4,x5⟩:=rQ w [.slice A1 was.length k1] [.slice A2 a.length k2] [.slice A3 b.length k3] [Z0] 38 38 38 38;have hR1:∀ W',Below w.heap.size w W'→bR (Old w) W' [.slice A1 was.length k1] was∧bR (Old w) W' [.slice A2 a.length k2] a∧bR (Old w) W' [.slice A3 b.length k3] b∧Words W':=fun W' h =>
  ⟨bR.fair.below (bR.fair.old h1) h,bR.fair.below (bR.fair.old h2) h,bR.fair.below (bR.fair.old h3) h,hW.below h⟩
 have HR:=hidL hR1;have Hg1:=hidL (fun W' (h:Below w.heap.size w W')=>kS (Old w) _ was W' (hR1 W' h).1 (hR1 W' h).2.2.2 o1);have Hg2:=hidL (fun W' (h:Below w.heap.size w W')=>kS (Old w) _ a W' (hR1 W' h).2.1 (hR1 W' h).2.2.2 o2);have Hg3:=hidL (fun W' (h:Below w.heap.size w W')=>kS (Old w) _ b W' (hR1 W' h).2.2.1 (hR1 W' h).2.2.2 o3);have Ho:=hidL (aid o1 o2 o3);obtain⟨R,hR⟩:=exE (fC was a b);rw[←hR];have HRR:=hidL hR;clear h1 h2 h3 hW o1 o2 o3 hR1 hR;have c0:=x1.c 0 rfl;have l0:=x1.lt;go_enter func96,ntmps96;go_wp2_with fail;refine(Hg1.out _ x5).mono ?_;rintro e w1 ⟨rfl,hb1⟩;have hw1:=aa x5 hb1 x5.size;have y1:=x1.below hb1 x1.lt;have y2:=x2.below hb1 x2.lt;have y3:=x3.below hb1 x3.lt;have y4:=x4.below hb1 x4.lt;clear c0 l0 x1 x2 x3 x4 x5 hb1 Hg1
 by_cases hg1:aB was=0
 ·have e1:(aB was != 0)=false:=by simp[hg1]
  have c0:=y2.c 0 rfl;have l0:=y2.lt;have HG1:=hidL hg1;clear hg1;go_wp2_with fail;refine(Hg2.out _ hw1).mono ?_;rintro e w2 ⟨rfl,hb2⟩;have hw2:=aa hw1 hb2 hw1.size;have z1:=y1.below hb2 y1.lt;have z2:=y2.below hb2 y2.lt;have z3:=y3.below hb2 y3.lt;have z4:=y4.below hb2 y4.lt;clear c0 l0 y1 y2 y3 y4 hb2 hw1 Hg2
  by_cases hg2:aB a=0
  ·have e2:(aB a != 0)=false:=by simp[hg2]
   have c0:=z3.c 0 rfl;have l0:=z3.lt;have HG2:=hidL hg2;clear hg2;go_wp2_with fail;refine(Hg3.out _ hw2).mono ?_;rintro e w3 ⟨rfl,hb3⟩;have hw3:=aa hw2 hb3 hw2.size;have u1:=z1.below hb3 z1.lt;have u2:=z2.below hb3 z2.lt;have u3:=z3.below hb3 z3.lt;have u4:=z4.below hb3 z4.lt;clear c0 l0 z1 z2 z3 z4 hb3 hw2 Hg3
   by_cases hg3:aB b=0
   ·have e3:(aB b != 0)=false:=by simp[hg3]
    have HG3:=hidL hg3;clear hg3;obtain⟨N,hN⟩:=exE (jl [was,a,b]);have hNl:N.length≤12:=by rw[hN];exact Ui HG1.out HG2.out HG3.out
    have HNL:=hidL hNl;have hNf:=Qh HG1.out HG2.out HG3.out;have b9:=Box.new w3 38 [Z0];have v1:=u1.alloc (.cells #[Z0] 38);have v2:=u2.alloc (.cells #[Z0] 38);have v3:=u3.alloc (.cells #[Z0] 38);have v4:=u4.alloc (.cells #[Z0] 38);have hwa:=hw3.alloc hw3.size (.cells #[Z0] 38);have hl4:w.heap.size+1+1+1<w3.heap.size:=u4.lt;have c1:=v1.c 0 rfl;have c2:=v2.c 0 rfl;have c3:=v3.c 0 rfl;have l1:=v1.lt;have l2:=v2.lt;have l3:=v3.lt;obtain⟨G9,hG9⟩:=exE w3.heap.size;rw[←hG9] at b9 hl4;have hs9:G9<(w3.alloc (.cells #[Z0] 38)).heap.size:=b9.lt;clear u1 u2 u3 u4 hw3;go_upto_region 5 with fail;generalize hWa:w3.alloc (.cells _ 38)=Wa at *;rw[←hG9];clear hG9 hWa;have w1b:=v1.alloc (.cells #[.slice A1 was.length k1,.slice A2 a.length k2,.slice A3 b.length k3] 38);have w2b:=v2.alloc (.cells #[.slice A1 was.length k1,.slice A2 a.length k2,.slice A3 b.length k3] 38);have w3b:=v3.alloc (.cells #[.slice A1 was.length k1,.slice A2 a.length k2,.slice A3 b.length k3] 38);have w4b:=v4.alloc (.cells #[.slice A1 was.length k1,.slice A2 a.length k2,.slice A3 b.length k3] 38);have w9b:=b9.alloc (.cells #[.slice A1 was.length k1,.slice A2 a.length k2,.slice A3 b.length k3] 38);have hwb:=hwa.alloc hwa.size (.cells #[.slice A1 was.length k1,.slice A2 a.length k2,.slice A3 b.length k3] 38);have bn:=Box.new Wa 38 [.slice A1 was.length k1,.slice A2 a.length k2,.slice A3 b.length k3];have hrs:RSl 1 24 bR (fun _=>True) (Wa.alloc (.cells #[.slice A1 was.length k1,.slice A2 a.length k2,.slice A3 b.length k3] 38)) [.slice (some ⟨Wa.heap.size,0,none⟩) 3 3] [was,a,b]:=RSl.rP (css:=[[.slice A1 was.length k1],[.slice A2 a.length k2],[.slice A3 b.length k3]]) (xs:=[was,a,b]) bn rfl trivial (by simp) (by simp) (by
     intro q t cs ht hcs;have hq:q=0∨q=1∨q=2:=by
      have:q < [was,a,b].length:=by
       rcases Nat.lt_or_ge q [was,a,b].length with h | h
       ·exact h
       ·rw[List.getElem?_eq_none h] at ht;cases ht
      simp only[List.length_cons,List.length_nil] at this;omega
     obtain⟨r1,r2,r3,_⟩:=HR.out _ hwb;rcases hq with rfl | rfl | rfl
     ·simp only[List.getElem?_cons_zero,Option.some.injEq] at ht hcs;subst ht;subst hcs;exact⟨rfl,bR.fair.mono r1 (fun _ _ _=>trivial)⟩
     ·simp only[List.getElem?_cons_zero,List.getElem?_cons_succ,Option.some.injEq] at ht hcs;subst ht;subst hcs;exact⟨rfl,bR.fair.mono r2 (fun _ _ _=>trivial)⟩
     ·simp only[List.getElem?_cons_zero,List.getElem?_cons_succ,Option.some.injEq] at ht hcs;subst ht;subst hcs;exact⟨rfl,bR.fair.mono r3 (fun _ _ _=>trivial)⟩)
    have hcall:=Me _ _ [was,a,b] _ hrs (by omega);rw[←hN] at hcall;have HCN:=hidL hcall;have HN:=hidL hN;clear hrs hcall hN hNl hNf bn v1 v2 v3 v4 b9 hwa;go_wp2_with fail;refine HCN.out.mono ?_;rintro e w4 ⟨vn,rfl,hrn,hb4⟩;obtain⟨An,kn,rfl,hnc,hnb⟩:=hrn.form;have q1:=w1b.below hb4 w1b.lt;have q2:=w2b.below hb4 w2b.lt;have q3:=w3b.below hb4 w3b.lt;have q4:=w4b.below hb4 w4b.lt;have q9:=w9b.below hb4 w9b.lt;have hw4:=aa hwb hb4 hwb.size;have hs4:=hb4.size;simp only[World.size_alloc] at hs4;obtain⟨M,hM⟩:=exE (Wa.heap.size+1);obtain⟨M4,hM4⟩:=exE w4.heap.size;have hrn2:RSl 1 16 lQ (fun g=>M≤g∧g<M4) w4 [.slice An N.length kn] N:=(RSl.fair lQ.fair).mono hrn (fun g h1 h2=>⟨by rw[hM];unfold New at h1;simpa using h1,by rw[hM4];exact h2⟩);have HRN:=hidL hrn2;have hMG:G9<M:=by omega
    have hMM:M≤M4:=by omega
    have hM4':M4≤w4.heap.size:=by omega
    have hlw9:w.heap.size+1+1+1<G9:=hl4;have hALL:∀ W',Below G9 w4 W'→(bR (Old w) W' [.slice A1 was.length k1] was∧bR (Old w) W' [.slice A2 a.length k2] a∧bR (Old w) W' [.slice A3 b.length k3] b∧Words W')∧(Box W' w.heap.size 38 [.slice A1 was.length k1]∧Box W' (w.heap.size+1) 38 [.slice A2 a.length k2]∧Box W' (w.heap.size+1+1) 38 [.slice A3 b.length k3]∧Box W' (w.heap.size+1+1+1) 38 [Z0])∧Below w.heap.size w W':=fun W' h =>
     ⟨HR.out W' (hw4.trans (h.mono (by omega))),⟨q1.below h (by omega),q2.below h (by omega),q3.below h (by omega),q4.below h (by omega)⟩,hw4.trans (h.mono (by omega))⟩
    have HALL:=hidL hALL;have hOB0:OB M4 w4 (Z0) (Z0) [] []:=OB.nil _ _;clear hrn hrn2 hb4 HCN HR q1 q2 q3 q4 w1b w2b w3b w4b w9b hwb hw4 hM hM4 hs4 hl4 c1 c2 c3 l1 l2 l3 hALL;go_wp2_with fail;go_loopw [10,39] (fun vb j wr=>∃ (q:Nat) (acc:List ax) (B:List aX) (vt:Value),j=O q∧q≤N.length∧Hid (acc=(N.take q).flatMap fun n=>(fG was a b n).1)∧Hid (B=(N.take q).flatMap fun n=>(fG was a b n).2)∧Hid (acc.length≤q∧B.length≤330*q) ∧
      OB M4 wr vt vb acc B∧Box wr G9 38 [vt]∧Hid (az (fun g=>M≤g∧g<M4) w4 wr)∧Below G9 w4 wr) (fun _ j _=>N.length-(intOf j).toNat)
    case atStart=>exact⟨0,[],[],_,rfl,by omega,rfl,rfl,(show _∧_ by simp),hOB0,q9,az.refl _ _,Below.refl _ _⟩
    case round =>
     obtain⟨q,acc,B,vt,rfl,hq,hacc,hB,hlen,hO,hb9,hK,hb⟩:=hrel;clear hOB0 q9
     by_cases hlq:q<N.length
     ·obtain⟨gn,on,rfl,hSn,hgn⟩:=HRN.out.base (by omega);have hcn:=(HRN.out.flat (enc:=fun x:ByteArray=>[.string x]) hlq).keep hK.out hSn;obtain⟨n,hn⟩:=exE (N[q]);rw[←hn] at hcn;have q0:LL wr gn (on+q) (.string n):=by have:=hcn.at_ 0 rfl;simpa using this
      have hgl:gn<wr.heap.size:=World.block_lt_of_cell? _ _ q0;have Hn:=hidL hn;clear hcn hn;go_upto_region 8 with fail;have hvs:G9≤wr.heap.size:=by have:=hb9.lt;go_light;omega
      have HV:∀ W',Below wr.heap.size wr W'→Below G9 w4 W':=fun W' h=>hb.trans (h.mono hvs)
      have hSK:∀ W',Below wr.heap.size wr W'→(fun W'=>LL W' w.heap.size 0 (.slice A1 was.length k1)∧LL W' (w.heap.size+1) 0 (.slice A2 a.length k2)∧LL W' (w.heap.size+1+1) 0 (.slice A3 b.length k3)) W':=fun W' h=>⟨(HALL.out W' (HV W' h)).2.1.1.cell 0,(HALL.out W' (HV W' h)).2.1.2.1.cell 0,(HALL.out W' (HV W' h)).2.1.2.2.1.cell 0⟩
      have HSK:=hidL hSK;have Hf1:=hidL (fun W' (h:Below wr.heap.size wr W')=>LA (Old w) _ was n W' (HALL.out W' (HV W' h)).1.1);have Hf2:=hidL (fun W' (h:Below wr.heap.size wr W')=>LA (Old w) _ a n W' (HALL.out W' (HV W' h)).1.2.1);have Hf3:=hidL (fun W' (h:Below wr.heap.size wr W')=>LA (Old w) _ b n W' (HALL.out W' (HV W' h)).1.2.2.1);have hf4:=fun W' (h:Below wr.heap.size wr W')=>Fp (nT was n) (nT a n) (nT b n) W'
      obtain⟨r1,hr1⟩:=exE (kT was a b n);rw[show iM (nT was n) (nT a n) (nT b n)=r1 from hr1.symm] at hf4;obtain⟨⟨th1,en1,⟨a1,a2,a3,a4,a5⟩,it1⟩,ok1⟩:=r1;unfold Ar at hf4;simp only[jr] at hf4;have Hf4:=hidL hf4;have Hr1:=hidL hr1;clear hSK HV hf4 hr1;go_cut [13,14] from 43 to 56 (fun p s W1=>∃ g,p=.pointer (some ⟨g,0,none⟩)∧s=.bool ok1∧wr.heap.size≤g∧Box W1 g 198 [.bool th1,.bool en1,O a1,.string a2,.string a3,O a4,O a5,.string it1]∧Below wr.heap.size wr W1)
      case first =>
       have hB:=au (Below.refl wr.heap.size wr);have hS:=HSK.out _ hB;refine aY (fun W'=>LL W' w.heap.size 0 (.slice A1 was.length k1)∧LL W' (w.heap.size+1) 0 (.slice A2 a.length k2)∧LL W' (w.heap.size+1+1) 0 (.slice A3 b.length k3)) 15 (by kernel_rfl) ?_;generalize wr.drew=Wb at hB hS ⊢;apply tkL 0 hS;apply tkL 1 hS;apply tkL 3 hS;apply tkL 4 hS;apply tkL 6 hS;apply tkL 7 hS
       try simp only[pu]
       refine jc (i:=2) (j:=13) rfl rfl (by kernel_rfl) (fun K hK=>?_) (fun K hK=>?_)
       rotate_left
       go_simp;obtain⟨hG,hGl,hB⟩:=aaz hB
       try simp only[Ak] at hG hGl
       clear hS;have hS:=HSK.out _ hB;refine hK.out _ _ (fun _=>hS) ?_
       try simp only[pu]
       generalize World.alloc _ _=WW at hB hG hS ⊢;refine anq 2 (fun K hK=>?_)
       all_goals
        go_simp;refine(Hf1.out _ hB).mono ?_;rintro e wn ⟨rfl,hbn⟩;replace hB:=aa hB hbn hB.size
        try replace hG:=hG.below hbn hG.lt
        clear hS hbn;have hS:=HSK.out _ hB;refine hK.out _ _ (fun _=>hS) ?_
        try simp only[pu]
       refine anq 5 (fun K hK=>?_)
       rotate_left
       refine jc (i:=5) (j:=13) rfl rfl (by kernel_rfl) (fun K hK=>?_) (fun K hK=>?_)
       rotate_left
       go_simp;obtain⟨hG,hGl,hB⟩:=aaz hB
       try simp only[Ak] at hG hGl
       clear hS;have hS:=HSK.out _ hB;refine hK.out _ _ (fun _=>hS) ?_
       try simp only[pu]
       generalize World.alloc _ _=WW at hB hG hS ⊢;refine anq 5 (fun K hK=>?_)
       all_goals
        go_simp;refine(Hf2.out _ hB).mono ?_;rintro e wn ⟨rfl,hbn⟩;replace hB:=aa hB hbn hB.size
        try replace hG:=hG.below hbn hG.lt
        clear hS hbn;have hS:=HSK.out _ hB;refine hK.out _ _ (fun _=>hS) ?_
        try simp only[pu]
       iterate 2
        refine anq 8 (fun K hK=>?_)
        rotate_left
       refine jc (i:=8) (j:=13) rfl rfl (by kernel_rfl) (fun K hK=>?_) (fun K hK=>?_)
       rotate_left
       go_simp;obtain⟨hG,hGl,hB⟩:=aaz hB
       try simp only[Ak] at hG hGl
       clear hS;have hS:=HSK.out _ hB;refine hK.out _ _ (fun _=>hS) ?_
       try simp only[pu]
       generalize World.alloc _ _=WW at hB hG hS ⊢;refine anq 8 (fun K hK=>?_)
       all_goals
        go_simp;refine(Hf3.out _ hB).mono ?_;rintro e wn ⟨rfl,hbn⟩;replace hB:=aa hB hbn hB.size
        try replace hG:=hG.below hbn hG.lt
        clear hS hbn;have hS:=HSK.out _ hB;refine hK.out _ _ (fun _=>hS) ?_
        try simp only[pu]
       iterate 3
        refine anq 9 (fun K hK=>?_)
        rotate_left
       refine jc (i:=9) (j:=13) rfl rfl (by kernel_rfl) (fun K hK=>?_) (fun K hK=>?_)
       rotate_left
       go_simp;obtain⟨hG,hGl,hB⟩:=aaz hB
       try simp only[Ak] at hG hGl
       clear hS;have hS:=HSK.out _ hB;refine hK.out _ _ (fun _=>hS) ?_
       try simp only[pu]
       generalize World.alloc _ _=WW at hB hG hS ⊢;refine anq 9 (fun K hK=>?_)
       all_goals
        go_simp;refine(Hf4.out _ hB).mono ?_;rintro e wn ⟨rfl,hbn⟩;replace hB:=aa hB hbn hB.size
        try replace hG:=hG.below hbn hG.lt
        clear hS hbn;have hS:=HSK.out _ hB;refine hK.out _ _ (fun _=>hS) ?_
        try simp only[pu]
        apply tkL 10 hS;apply tkL 11 hS;apply tkL 12 hS
        try simp only[pu]
       rotate_right
       refine anq 13 (fun K hK=>?_);go_simp;obtain⟨hG,hGl,hB⟩:=aaz hB
       try simp only[Ak] at hG hGl
       clear hS;have hS:=HSK.out _ hB;refine hK.out _ _ (fun _=>hS) ?_
       try simp only[pu]
       generalize World.alloc _ _=WW at hB hG hS ⊢
       all_goals
        obtain⟨r0,r1,r2,r3,r4,r5,r6,r7,g0,g1,g2,g3,g4,g5,g6,g7,hlr⟩:=(hG).rr8;refine anq 14 (fun K hK=>?_);go_simp;clear r0 r1 r2 r3 r4 r5 r6 r7 g0 g1 g2 g3 g4 g5 g6 g7;replace hB:=below_setCells hGl [.bool th1,.bool en1,O a1,.string a2,.string a3,O a4,O a5,.string it1] 0 _ hB;replace hG:=hG.setCells [.bool th1,.bool en1,O a1,.string a2,.string a3,O a4,O a5,.string it1] rfl;clear hS hlr;change K _ (setCells _ _ 0 [.bool th1,.bool en1,O a1,.string a2,.string a3,O a4,O a5,.string it1]);generalize setCells _ _ 0 [.bool th1,.bool en1,O a1,.string a2,.string a3,O a4,O a5,.string it1]=W5 at hB hG ⊢;have hS:=HSK.out _ hB;refine hK.out _ _ (fun _=>hS) ?_
        try simp only[pu]
        refine anq 15 (fun K hK=>?_);go_simp;refine hK.out _ _ nay ?_
        try simp only[pu]
        refine ani ?_ _;go_wp2;go_meet
        case rel=>exact⟨_,rfl,rfl,hGl,hG,hB⟩
      case rest =>
       clear HSK Hf1 Hf2 Hf3 Hf4;obtain⟨p1,rfl,rfl,hp1,hG1,hb1⟩:=hcut;obtain⟨V,hV⟩:=exE wc;subst hV;have hbV:=hb.trans (hb1.mono hvs);have hO1:=hO.below hb1;have hb91:=hb9.below hb1 hb9.lt;have hK1:=hidL (hK.out.trans (az.of_below hb1));have hsV:=hbV.size;have hsz9:=hb91.lt;have hMV:M4≤V.heap.size:=by have:=hK1.out.1;go_light;omega
       have hlB:B.length≤330*q:=hlen.out.2;have hla:acc.length≤q:=hlen.out.1;have hnl2:N.length≤12:=HNL.out;have hst1:=sJ N (fun n=>(fG was a b n).1) hlq;have hst2:=sJ N (fun n=>(fG was a b n).2) hlq;rw[←Hn.out] at hst1 hst2;clear hO hb9 hb hb1 hK hlen;obtain⟨Sb,cb,rfl,hcb⟩:=hO1.b.form;have n0:LL V p1 0 (.bool th1):=hG1.cell 0;have n1:LL V p1 1 (.bool en1):=hG1.cell 1;have hln:=hG1.lt;cases ok1
       ·have hnm:fG was a b n=([],[⟨n,0,0⟩]):=by unfold fG;rw[←Hr1.out];simp
        rw[hnm] at hst1 hst2;have HA2:=hidL (show acc=(N.take (q+1)).flatMap fun n=>(fG was a b n).1 by rw[hst1,List.append_nil];exact hacc.out);have HB2:=hidL (show B++[⟨n,0,0⟩]=(N.take (q+1)).flatMap fun n=>(fG was a b n).2 by rw[hst2,←hB.out]);clear hst1 hst2 hnm hacc hB Hr1;go_wp2_with (at_builtin;go_must (refine bv _ rfl (.tmp 58) (.tmp 61) rfl qF aU.fair rfl rfl (hO1.b.alloc aU.fair _) (Src.one (es:=[.string n,O 0,O 0]) (y:=aX.mk n 0 0) rfl (gI.bK rfl) rfl (ik.newAt (by first | rfl | simp[World.setCell]))) (NoT.lt _) ?_ ?_ ?_))
        ·go_light;(try simp only[List.length_cons,List.length_nil]);omega
        ·go_light;simp only[World.size_alloc];omega
        ·intro v6 w6 ho6 hg6 hv6;have hO6:=(hO1.alloc (.cells #[.string n,O 0,O 0] 97)).pushB hg6 ho6 (by simpa using hv6);have h96:=(hb91.alloc (.cells #[.string n,O 0,O 0] 97)).fU (hO1.b.alloc aU.fair _) (.inl (by go_light;omega)) hg6;have hb6:=below_grown (hbV.alloc (by go_light;omega) (.cells #[.string n,O 0,O 0] 97)) hg6 (by go_light;simp only[World.size_alloc];omega) (fun g' h=>by have:=(hO1.b.lt h).1;go_light;omega);have hK6:=hidL ((hK1.out.trans (az.alloc _ V (.cells #[.string n,O 0,O 0] 97))).trans (az.bH hg6 (fun k hk h=>by have:=(hO1.b.lt hk).1;omega)));go_wp2;go_roundw
         case rel=>exact⟨q+1,acc,B++[⟨n,0,0⟩],_,by go_num,by omega,HA2,HB2,(show _∧_ by refine⟨?_,?_⟩ <;> (try simp only[List.length_append,List.length_cons,List.length_nil]) <;> omega),hO6,h96,hK6,hb6⟩
         case measure=>simp[intOf];omega
       ·obtain⟨T,hTe⟩:=exE (yo (typeOf was n) (typeOf a n) (typeOf b n) n);obtain⟨L,hLe⟩:=exE (tyL was a b n);have hcA:=HALL.out V hbV;have hcall:=agf (Old w) _ _ _ was a b n V hcA.1.1 hcA.1.2.1 hcA.1.2.2.1 (kX HG1.out n) (kX HG2.out n) (kX HG3.out n);rw[←hTe,show zD (typeOf was n) (typeOf a n) (typeOf b n) n=L from hLe.symm] at hcall;have Ht:=hidL hcall;have hLl:L.length≤330:=by rw[hLe];exact Xg HG1.out HG2.out HG3.out n
        have hty:tyT was a b n = { T with enum:=en1 }:=by unfold tyT;rw[←Hr1.out,hTe]
        have Hty:=hidL hty;have HLe:=hidL hLe;have m1:=hcA.2.1.1.c 0 rfl;have m2:=hcA.2.1.2.1.c 0 rfl;have m3:=hcA.2.1.2.2.1.c 0 rfl;have o1:=hcA.2.1.1.lt;have o2:=hcA.2.1.2.1.lt;have o3:=hcA.2.1.2.2.1.lt;clear hTe hLe hcA hcall hty;go_wp2_with fail;refine Ht.out.mono ?_;rintro e w5 ⟨cs,vl,rfl,hrT,hrL,hb5⟩;obtain⟨P1,d1,P2,d2,P3,d3,rfl,rf,rg,ri⟩:=hrT.parts;obtain⟨AL,kL,rfl,hLc,hLb⟩:=hrL.form;obtain⟨_,_,hff,hfc,hfb⟩:=rf.form;obtain⟨_,_,hgg,hgc,hgb⟩:=rg.form;obtain⟨_,_,hii,hic,hib⟩:=ri.form;clear m1 m2 m3 o1 o2 o3 n0 n1 hln hff hgg hii Ht;have hG5:=hG1.below hb5 hG1.lt;have n1:LL w5 p1 1 (.bool en1):=hG5.cell 1;have hln:=hG5.lt;have hs5:=hb5.size;go_upto_region 13 with fail;have h6:=hb5.alloc hb5.size (.cells #[.string T.name,.bool en1,.slice P1 T.fields.length d1,.slice P2 T.gone.length d2,.slice P3 T.items.length d3] 53);have hO6:=hO1.below h6;have h96:=hb91.below h6 hb91.lt;have hX6:=Box.new w5 53 [.string T.name,.bool en1,.slice P1 T.fields.length d1,.slice P2 T.gone.length d2,.slice P3 T.items.length d3];have hG6:=hG5.alloc (.cells #[.string T.name,.bool en1,.slice P1 T.fields.length d1,.slice P2 T.gone.length d2,.slice P3 T.items.length d3] 53);have hb6:=hbV.trans (h6.mono (Nat.le_of_lt hsz9));have hK6:=hK1.out.trans (az.of_below h6);have hsr:∀ g,New V g→g<w5.heap.size→V.heap.size≤g∧g<w5.heap.size:=fun g h1 h2=>⟨h1,h2⟩
        have rT5:ah (fun g=>V.heap.size≤g∧g<w5.heap.size) w5 [.string T.name,.bool en1,.slice P1 T.fields.length d1,.slice P2 T.gone.length d2,.slice P3 T.items.length d3] { T with enum:=en1 }:=⟨_,_,_,rfl,(RSl.fair aH.fair).mono rf hsr,(RSl.fair aQ.fair).mono rg hsr,(RSl.fair aO.fair).mono ri hsr⟩;have rT6:=ah.fair.keep rT5 (az.alloc _ w5 (.cells #[.string T.name,.bool en1,.slice P1 T.fields.length d1,.slice P2 T.gone.length d2,.slice P3 T.items.length d3] 53));have rL6:=(RSl.fair aU.fair).keep ((RSl.fair aU.fair).mono hrL hsr) (az.alloc _ w5 (.cells #[.string T.name,.bool en1,.slice P1 T.fields.length d1,.slice P2 T.gone.length d2,.slice P3 T.items.length d3] 53));have hlX:w5.heap.size<(w5.alloc (.cells #[.string T.name,.bool en1,.slice P1 T.fields.length d1,.slice P2 T.gone.length d2,.slice P3 T.items.length d3] 53)).heap.size:=hX6.lt;have hltb:∀ k,(Value.slice Sb B.length cb).ownBlock=some k→k<V.heap.size:=fun k hk=>(hO1.b.lt hk).2
        have hltt:∀ k,vt.ownBlock=some k→k<V.heap.size:=fun k hk=>(hO1.tlt hk).2
        have hM5:M4≤w5.heap.size:=by omega
        clear rT5 rf rg ri hrT hrL hsr hG1 hG5 n1 hln hO1 hb91 hbV hb5 hK1;generalize hW6:w5.alloc (.cells #[.string T.name,.bool en1,.slice P1 T.fields.length d1,.slice P2 T.gone.length d2,.slice P3 T.items.length d3] 53)=W6 at *;generalize w5.heap.size=X at *;clear hW6 h6;have HK6:=hidL hK6;have HrT:=hidL rT6;have HrL:=hidL rL6;have HLT:=hidL hltt;have HLB:=hidL hltb;clear hK6 rT6 rL6 hltt hltb;have h9l:=h96.lt;go_wp2_with (at_builtin;go_must (refine bv _ rfl (.tmp 74) (.tmp 75) rfl qF aU.fair rfl rfl hO6.b (Src.noT (HrL.out.src (by decide) aU.ones)) (NoT.lt _) ?_ ?_ ?_))
        ·go_light;(try simp only[List.length_cons,List.length_nil]);omega
        ·go_light;omega
        ·intro v7 w7 ho7 hg7 hv7;have hO7:=hO6.pushB hg7 ho7 hv7;have h97:=h96.fU hO6.b (.inl (by go_light;omega)) hg7;have hX7:=hX6.fU hO6.b (.inr (by decide)) hg7;have hG7:=hG6.fU hO6.b (.inr (by decide)) hg7;have hb7:=below_grown hb6 hg7 (by go_light;omega) (fun g' h=>by have:=(hO6.b.lt h).1;go_light;omega);have hK7:=hidL (HK6.out.trans (az.bH hg7 (fun k hk h=>by have:=(hO6.b.lt hk).1;omega)));have hrT7:=hidL (ah.fair.keep HrT.out (az.bH hg7 (fun k hk h=>by have:=HLB.out k hk;omega)));have HLV:∀ k,v7.ownBlock=some k→k<V.heap.size∨X≤k:=fun k hk=>by
          rcases hv7 with h | h
          ·exact .inl (HLB.out k (h ▸ hk))
          ·rw[h] at hk;injection hk with hk;right;omega
         have HLV7:=hidL HLV;have hs7:=hg7.size;clear hO6 h96 hX6 hG6 hb6 HK6 HrT HrL HLV hg7 ho7 hv7 HLB h9l;obtain⟨A7,c7,rfl,hc7⟩:=hO7.b.form
         by_cases hL0:0<L.length
         ·have hnm:fG was a b n=([],L):=by unfold fG;rw[←Hr1.out,←HLe.out];simp[hL0]
          rw[hnm] at hst1 hst2;have HA2:=hidL (show acc=(N.take (q+1)).flatMap fun n=>(fG was a b n).1 by rw[hst1,List.append_nil];exact hacc.out);have HB2:=hidL (show B++L=(N.take (q+1)).flatMap fun n=>(fG was a b n).2 by rw[hst2,←hB.out]);clear hst1 hst2 hnm hacc hB Hr1;go_wp2;go_roundw
          case rel=>exact⟨q+1,acc,B++L,_,by go_num,by omega,HA2,HB2,(show _∧_ by refine⟨?_,?_⟩ <;> (try simp only[List.length_append]) <;> omega),hO7,h97,hK7,hb7⟩
          case measure=>simp[intOf];omega
         ·have hL1:L=[]:=List.eq_nil_of_length_eq_zero (by omega);subst hL1;rw[List.append_nil] at hO7;have hBL:(B++([]:List aX)).length=B.length:=by simp
          rw[hBL] at *;replace HLV7:Hid (∀ k,(Value.slice A7 B.length c7).ownBlock=some k→k<V.heap.size∨X≤k):=hidL (fun k hk=>HLV7.out k (by simpa using hk));clear hBL hL0 hLl hLb hLc;obtain⟨nf,hnf⟩:=exE T.fields.length;obtain⟨ng,hng⟩:=exE T.gone.length;obtain⟨ni,hni⟩:=exE T.items.length;rw[←hnf] at hX7 hfc hfb;rw[←hng] at hX7 hgc hgb;rw[←hni] at hX7 hic hib;obtain⟨cl,hcl⟩:=exE (Eo (kT was a b n).1 (tyT was a b n));have hclv:cl=((!th1&&(decide (0<nf+ng)||decide (0<ni)))||(th1&&en1&&decide (0<nf+ng))||(th1 && !en1&&decide (0<ni))):=by
           rw[hcl,←Hr1.out,Hty.out,hnf,hng,hni];rfl
          have Hcl:=hidL hcl;have HX7:=hidL hX7;have Hnf:=hidL hnf;have Hng:=hidL hng;have Hni:=hidL hni;clear hcl hnf hng hni;obtain⟨p0,p1x,p2,p3,p4⟩:=hX7.five;have hlX7:=hX7.lt;have n0:LL w7 p1 0 (.bool th1):=hG7.cell 0;have n1:LL w7 p1 1 (.bool en1):=hG7.cell 1;have hln:=hG7.lt;go_upto_region 16 with fail;have hMw:M4≤w7.heap.size:=by have:=hK7.out.1;omega
          obtain⟨fu,hfu⟩:=exE (decide (0<(nf:Int)+ng));obtain⟨iu,hiu⟩:=exE (decide (0<(ni:Int)));have hiu2:decide (0<ni)=iu:=by rw[hiu];exact decide_eq_decide.2 (by omega)
          rw[show decide (0<nf+ng)=fu from by rw[hfu];exact decide_eq_decide.2 (by omega),hiu2] at hclv;have hfu1:=hfu.symm;have hiu1:=hiu.symm;clear hfu hiu;simp only[hfu1];go_cut [125] from 88 to 125 (fun s W=>s=.bool cl∧W=w7)
          case first =>
           cases th1 <;> cases en1 <;> cases fu <;> cases iu
           all_goals
            simp only[Bool.not_true,Bool.not_false,Bool.true_and,Bool.false_and,Bool.or_true,Bool.or_false,Bool.true_or,Bool.and_true,Bool.and_false,Bool.false_or] at hclv;go_wp2;go_meet
            case rel=>exact⟨by rw[hclv],rfl⟩
          case rest =>
           obtain⟨rfl,hwc⟩:=hcut;subst hwc;clear hfu1 hiu1 hiu2 hclv;cases cl
           ·cases th1
            ·have hnm:fG was a b n=([],[]):=by unfold fG;rw[←Hcl.out,←Hr1.out,←HLe.out];simp
             rw[hnm] at hst1 hst2;have HA2:=hidL (show acc=(N.take (q+1)).flatMap fun n=>(fG was a b n).1 by rw[hst1,List.append_nil];exact hacc.out);have HB2:=hidL (show B=(N.take (q+1)).flatMap fun n=>(fG was a b n).2 by rw[hst2,List.append_nil];exact hB.out);clear hst1 hst2 hnm hacc hB Hr1;go_wp2;go_roundw
             case rel=>exact⟨q+1,acc,B,_,by go_num,by omega,HA2,HB2,(show _∧_ by refine⟨?_,?_⟩ <;> omega),hO7,h97,hK7,hb7⟩
             case measure=>simp[intOf];omega
            ·have hnm:fG was a b n=([{ T with enum:=en1 }],[]):=by unfold fG;rw[←Hcl.out,←Hr1.out,←HLe.out,Hty.out];simp
             rw[hnm] at hst1 hst2;have HA2:=hidL (show acc++[{ T with enum:=en1 }]=(N.take (q+1)).flatMap fun n=>(fG was a b n).1 by rw[hst1,←hacc.out]);have HB2:=hidL (show B=(N.take (q+1)).flatMap fun n=>(fG was a b n).2 by rw[hst2,List.append_nil];exact hB.out);have hrq:=hrT7.out;rw[←Hnf.out,←Hng.out,←Hni.out] at hrq;have hrT8:=ah.fair.keep hrq (az.alloc _ wc (.cells #[.string T.name,.bool en1,.slice P1 nf d1,.slice P2 ng d2,.slice P3 ni d3] 53));have hO8:=hO7.alloc (.cells #[.string T.name,.bool en1,.slice P1 nf d1,.slice P2 ng d2,.slice P3 ni d3] 53);obtain⟨T2,g1,g2,g3,g4,g5⟩:=hO8.take hrT8 (by omega) (by simp only[World.size_alloc];omega) (fun k hk=>.inl (HLT.out k hk)) HLV7.out;obtain⟨Dt,dt,rfl,hdt⟩:=hO7.alm;have G1:=hidL g1;have G2:=hidL g2;have G3:=hidL g3;have G4:=hidL g4;have G5:=hidL g5;clear hst1 hst2 hnm hacc hB Hr1 hrq hrT8 hO8 g1 g2 g3 g4 g5;have k0:LL wc G9 0 (.slice Dt acc.length dt):=h97.cell 0;have h9l:=h97.lt;go_wp2_with (at_builtin;go_must (refine bv _ rfl (.tmp 134) (.tmp 136) rfl QR ah.fair rfl rfl G3.out (Src.one (es:=[.string T.name,.bool en1,.slice P1 nf d1,.slice P2 ng d2,.slice P3 ni d3]) (y:={ T with enum:=en1 }) rfl (gI.bK rfl) G4.out (ik.newAt (by first | rfl | simp[World.setCell]))) (fun g h=>(G1.out g h).2) ?_ ?_ ?_))
             ·go_light;(try simp only[List.length_cons,List.length_nil]);omega
             ·go_light;simp only[World.size_alloc];omega
             ·intro v9 w9 ho9 hg9 hv9;obtain⟨A9,c9,rfl,-⟩:=ho9.form;simp only[List.length_append,List.length_cons,List.length_nil,Nat.zero_add] at ho9 hv9;have hO9:=OB.made G1.out G2.out G3.out G5.out hg9 ho9;have h99:=(h97.alloc (.cells #[.string T.name,.bool en1,.slice P1 nf d1,.slice P2 ng d2,.slice P3 ni d3] 53)).fU G3.out (.inl (by go_light;omega)) hg9;have hb9':=below_grown (hb7.alloc (by go_light;omega) (.cells #[.string T.name,.bool en1,.slice P1 nf d1,.slice P2 ng d2,.slice P3 ni d3] 53)) hg9 (by go_light;simp only[World.size_alloc];omega) (fun g' h=>by have:=(G3.out.lt h).1;go_light;omega);have hK9:=hidL (((hK7.out.trans (az.alloc _ wc (.cells #[.string T.name,.bool en1,.slice P1 nf d1,.slice P2 ng d2,.slice P3 ni d3] 53))).trans (az.bH hg9 (fun k hk h=>by have:=(G3.out.lt hk).1;omega))).trans (az.setCell w9 (a:=⟨G9,0,none⟩) (.slice A9 (acc.length+1) c9) (by show ¬ (M≤G9∧_);omega)));clear k0 h9l n0 n1 hln p0 p1x p2 p3 p4 hlX7;have k0:LL w9 G9 0 (.slice Dt acc.length dt):=h99.cell 0;have kf:=h99.frozen 0;have h9l:=h99.lt;go_wp2;go_roundw
              case rel =>
               have h100:=h99.gB 0 (.slice A9 (acc.length+1) c9);simp only[List.set_cons_zero] at h100;exact⟨q+1,acc++[{ T with enum:=en1 }],B,_,by go_num,by omega,HA2,HB2,(show _∧_ by refine⟨?_,?_⟩ <;> (try simp only[List.length_append,List.length_cons,List.length_nil]) <;> omega),hO9.setCell (p:=⟨G9,0,none⟩) (.slice A9 (acc.length+1) c9) (by show G9<M4;omega),h100,hK9,hb9'.setCell (p:=⟨G9,0,none⟩) (Nat.le_refl _) _⟩
              case measure=>simp[intOf];omega
           ·have hnm:fG was a b n=([],[⟨n,0,0⟩]):=by unfold fG;rw[←Hcl.out,←Hr1.out,←HLe.out];simp
            rw[hnm] at hst1 hst2;have HA2:=hidL (show acc=(N.take (q+1)).flatMap fun n=>(fG was a b n).1 by rw[hst1,List.append_nil];exact hacc.out);have HB2:=hidL (show B++[⟨n,0,0⟩]=(N.take (q+1)).flatMap fun n=>(fG was a b n).2 by rw[hst2,←hB.out]);clear hst1 hst2 hnm hacc hB Hr1;go_wp2_with (at_builtin;go_must (refine bv _ rfl (.tmp 126) (.tmp 129) rfl qF aU.fair rfl rfl (hO7.b.alloc aU.fair _) (Src.one (es:=[.string n,O 0,O 0]) (y:=aX.mk n 0 0) rfl (gI.bK rfl) rfl (ik.newAt (by first | rfl | simp[World.setCell]))) (NoT.lt _) ?_ ?_ ?_))
            ·go_light;(try simp only[List.length_cons,List.length_nil]);omega
            ·go_light;simp only[World.size_alloc];omega
            ·intro v6 w6 ho6 hg6 hv6;have hO6:=(hO7.alloc (.cells #[.string n,O 0,O 0] 97)).pushB hg6 ho6 (by simpa using hv6);have h96:=(h97.alloc (.cells #[.string n,O 0,O 0] 97)).fU (hO7.b.alloc aU.fair _) (.inl (by go_light;omega)) hg6;have hb6:=below_grown (hb7.alloc (by go_light;omega) (.cells #[.string n,O 0,O 0] 97)) hg6 (by go_light;simp only[World.size_alloc];omega) (fun g' h=>by have:=(hO7.b.lt h).1;go_light;omega);have hK6:=hidL ((hK7.out.trans (az.alloc _ wc (.cells #[.string n,O 0,O 0] 97))).trans (az.bH hg6 (fun k hk h=>by have:=(hO7.b.lt hk).1;omega)));go_wp2;go_roundw
             case rel=>exact⟨q+1,acc,B++[⟨n,0,0⟩],_,by go_num,by omega,HA2,HB2,(show _∧_ by refine⟨?_,?_⟩ <;> (try simp only[List.length_append,List.length_cons,List.length_nil]) <;> omega),hO6,h96,hK6,hb6⟩
             case measure=>simp[intOf];omega
     ·have hqe:q=N.length:=by omega
      subst hqe;have ha2:=hacc.out;have hb2:=hB.out;rw[List.take_length] at ha2 hb2;have hA:acc=yA was a b:=by rw[ha2,HN.out];rfl
      have hBm:B=Ub was a b:=by rw[hb2,HN.out];rfl
      have hR0:R=if 0<B.length then ([],B,9) else if aB acc≠0 then ([],[],aB acc) else (acc,[],0):=by
       rw[HRR.out,fC,if_neg (by simp[HG1.out,HG2.out,HG3.out]),←hA,←hBm]
      have hok:aS acc:=hA ▸ Ho.out;have hla:acc.length≤N.length:=hlen.out.1;have hlB:B.length≤330*N.length:=hlen.out.2;have hnl2:N.length≤12:=HNL.out;obtain⟨T,t1,t2,t3,t4⟩:=hO;have rt:bR (fun g=>M4≤g) wr [vt] acc:=t3.read ah.fair (fun g h _=>(t1 g h).1) (fun k hk=>(t3.lt hk).1) (by omega);have rb:=t4.read (S:=fun g=>M4≤g) (by_:=32) aU.fair (fun _ h=>h.elim) (fun k hk=>(t4.lt hk).1) (by omega);obtain⟨Dt,dt,rfl,-⟩:=t3.form;obtain⟨Sb,cb,rfl,-⟩:=t4.form;have hr6:=(HALL.out wr hb).2.1.2.2.2;have hwW:=(HALL.out wr hb).2.2;have hWo:=(HALL.out wr hb).1.2.2.2;have hnew:∀ (W:World) g,M4≤g→g<W.heap.size→New w g:=fun _ g h _=>by unfold New;omega
      have hns:¬ M4≤w.heap.size+1+1+1:=by omega
      have HRT:=hidL rt;have HRB:=hidL rb;have HOK:=hidL hok;have HWo:=hidL hWo;have HNW:=hidL hnew;clear ha2 hb2 hA hBm hok hlen t1 t2 t3 t4 rt rb hWo hnew hacc hB hK hb
      by_cases hB0:0<B.length
      ·rw[if_pos hB0] at hR0;subst hR0;have c6:=hr6.c 0 rfl;have f6:=hr6.frozen 0;have l6:=hr6.lt;have hb6:=hidL (hr6.gB 0 (Z0));have hw6:=hidL (hwW.setCell (p:=⟨w.heap.size+1+1+1,0,none⟩) (by show w.heap.size≤w.heap.size+1+1+1;omega) (Z0));go_wp2_with fail;exact qC hb6.out hw6.out rfl ((RSl.fair aU.fair).mono ((RSl.fair aU.fair).keep HRB.out (az.setCell wr (a:=⟨w.heap.size+1+1+1,0,none⟩) (Z0) hns)) (HNW.out _)) rfl rfl rfl rfl
      ·rw[if_neg hB0] at hR0;have HR0:=hidL hR0;have hgc:=kS (fun g=>M4≤g) _ acc wr HRT.out HWo.out HOK.out;have Hgc:=hidL hgc;have c9:=hb9.c 0 rfl;have l9:=hb9.lt;clear hgc hR0;go_wp2_with fail;refine Hgc.out.mono ?_;rintro e w5 ⟨rfl,hb5⟩;have hr7:=hr6.below hb5 hr6.lt;have hw7:=aa hwW hb5 hwW.size;have h97:=hb9.below hb5 hb9.lt;have HRT5:=hidL (bR.fair.below HRT.out hb5);clear c9 l9 hr6 hwW hb9 hb5;have hR0:=HR0.out
       by_cases hg:aB acc=0
       ·have eg:(aB acc != 0)=false:=by simp[hg]
        rw[if_neg (by simpa using hg)] at hR0;have c9:=h97.c 0 rfl;have l9:=h97.lt;have c6:=hr7.c 0 rfl;have f6:=hr7.frozen 0;have l6:=hr7.lt;subst hR0;have hb6:=hidL (hr7.gB 0 (.slice Dt acc.length dt));have hw6:=hidL (hw7.setCell (p:=⟨w.heap.size+1+1+1,0,none⟩) (by show w.heap.size≤w.heap.size+1+1+1;omega) (.slice Dt acc.length dt));clear hg;go_wp2_with fail;exact bodyPost_ret (Gt hb6.out rfl rfl rfl) rfl ⟨_,_,rfl,bR.fair.mono (bR.fair.keep HRT5.out (az.setCell w5 (a:=⟨w.heap.size+1+1+1,0,none⟩) (.slice Dt acc.length dt) hns)) (HNW.out _),RSl.dJ,hw6.out⟩
       ·have eg:(aB acc != 0)=true:=by simp[hg]
        rw[if_pos hg] at hR0;subst hR0;have c6:=hr7.c 0 rfl;have f6:=hr7.frozen 0;have l6:=hr7.lt;have hb6:=hidL (hr7.gB 0 (Z0));have hw6:=hidL (hw7.setCell (p:=⟨w.heap.size+1+1+1,0,none⟩) (by show w.heap.size≤w.heap.size+1+1+1;omega) (Z0));go_wp2_with fail;exact qC hb6.out hw6.out rfl RSl.dJ rfl rfl rfl rfl
   ·have e3:(aB b != 0)=true:=by simp[hg3]
    have hRe:R=([],[],1):=by rw[HRR.out,fC,if_pos (.inr (.inr hg3))]
    subst hRe;have c6:=u4.c 0 rfl;have f6:=u4.frozen 0;have l6:=u4.lt;have hb6:=hidL (u4.gB 0 (Z0));have hw6:=hidL (hw3.setCell (p:=⟨w.heap.size+1+1+1,0,none⟩) (by show w.heap.size≤w.heap.size+1+1+1;omega) (Z0));go_wp2_with fail;exact qC hb6.out hw6.out rfl RSl.dJ rfl rfl rfl rfl
  ·have e2:(aB a != 0)=true:=by simp[hg2]
   have hRe:R=([],[],1):=by rw[HRR.out,fC,if_pos (.inr (.inl hg2))]
   subst hRe;have c6:=z4.c 0 rfl;have f6:=z4.frozen 0;have l6:=z4.lt;have hb6:=hidL (z4.gB 0 (Z0));have hw6:=hidL (hw2.setCell (p:=⟨w.heap.size+1+1+1,0,none⟩) (by show w.heap.size≤w.heap.size+1+1+1;omega) (Z0));go_wp2_with fail;exact qC hb6.out hw6.out rfl RSl.dJ rfl rfl rfl rfl
 ·have e1:(aB was != 0)=true:=by simp[hg1]
  have hRe:R=([],[],1):=by rw[HRR.out,fC,if_pos (.inl hg1)]
  subst hRe;have c6:=y4.c 0 rfl;have f6:=y4.frozen 0;have l6:=y4.lt;have hb6:=hidL (y4.gB 0 (Z0));have hw6:=hidL (hw1.setCell (p:=⟨w.heap.size+1+1+1,0,none⟩) (by show w.heap.size≤w.heap.size+1+1+1;omega) (Z0));go_wp2_with fail;exact qC hb6.out hw6.out rfl RSl.dJ rfl rfl rfl rfl
end
end Go.Proofs.YtknnhpkjgnkcdaaGreatDoor
