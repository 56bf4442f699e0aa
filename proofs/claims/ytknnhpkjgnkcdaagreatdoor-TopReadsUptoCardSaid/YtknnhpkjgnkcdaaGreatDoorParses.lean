/- Walks and plain laws. -/
import Derived.Test.YtknnhpkjgnkcdaaGreatDoorPrints
set_option linter.all false
set_option maxRecDepth 100000
set_option maxHeartbeats 8000000
namespace Go.Proofs.YtknnhpkjgnkcdaaGreatDoor
section
open Go.Proofs.Tryz
open Go.RowKit
section
variable {α:Type}{base e sz:Nat}{R:Rel α}{T:Nat→Prop}{w w':World}{v:Value}{xs:List α}
theorem Own.alj {b:Nat}(h:Own base e sz R T w v xs)(hb:b≤base):Own b e sz R T w v xs:=by
 obtain⟨css,⟨h0,h1⟩,h2,h3,h4⟩:=h;refine⟨css,⟨h0,?_⟩,h2,h3,h4⟩;rcases h1 with h1 | ⟨g,cap,cur,hv,hg,hr⟩
 ·exact .inl h1
 ·exact .inr ⟨g,cap,cur,hv,by omega,hr⟩
theorem Own.air (hR:Fair R)(h:Own base e sz R NoT w v xs){S:Nat→Prop}(hk:az S w w')(hS:∀ k,v.ownBlock=some k→S k):Own base e sz R NoT w' v xs:=by
 obtain⟨css,⟨h0,h1⟩,h2,h3,h4⟩:=h;refine⟨css,⟨h0,?_⟩,h2,h3,fun k x cs hx hc=>⟨(h4 k x cs hx hc).1,hR.keep (h4 k x cs hx hc).2 ⟨hk.1,fun _ h=>h.elim⟩⟩⟩;rcases h1 with h1 | ⟨g,cap,cur,hv,hg,hh,hr⟩
 ·exact .inl h1
 ·refine .inr ⟨g,cap,cur,hv,hg,?_,hr⟩;rw[hk.2 g (hS g (by rw[hv];rfl)) (Array.getElem?_eq_some_iff.1 hh).1];exact hh
end
def fF.fv (x:fF):Value:=.slice x.F x.f x.p
def fF.fb (x:fF):Option Nat:=x.fv.ownBlock
def wy (base:Nat)(S:Nat→Prop)(w:World)(x:fF)(t:ax):Prop :=
 x.name=t.name∧x.enum=t.enum∧Own base 55 5 aH NoT w x.fv t.fields∧RSl 1 8 aQ S w [.slice x.G x.g x.q] t.gone∧RSl 2 24 aO S w [.slice x.I x.i x.r] t.items
def Rest (base:Nat)(v:Value)(xs:List fF)(y:Nat):Prop:=base≤y∧v.ownBlock≠some y∧∀ x∈xs,x.fb≠some y
def LJ (a b:fF):Prop:=∀ k,a.fb=some k→b.fb≠some k
theorem LJ.symm {a b:fF}(h:LJ a b):LJ b a:=fun k h1 h2=>h k h2 h1
structure jy (base:Nat) (w:World) (v:Value) (xs:List fF) (ts:List ax):Prop where
 row:Own base 53 5 bg NoT w v xs
 apart:xs.Pairwise LJ
 all:nz (wy base (Rest base v xs) w) xs ts
theorem jy.dJ (base:Nat)(w:World):jy base w (Z0) [] []:=⟨Own.dJ _ _ _ _ _ _,.nil,.nil⟩
section
variable {base:Nat}{w w':World}{v:Value}{xs:List fF}{ts:List ax}
theorem wy.Zl {S:Nat→Prop}{x:fF}{t:ax}(h:wy base S w x t){K:Nat→Prop}(hk:az K w w')(hS:∀ y,S y→K y)(hf:∀ k,x.fb=some k→K k):wy base S w' x t:=by
 obtain⟨h1,h2,h3,h4,h5⟩:=h;exact⟨h1,h2,h3.air aH.fair hk hf,(RSl.fair aQ.fair).keep h4 (hk.mono hS),(RSl.fair aO.fair).keep h5 (hk.mono hS)⟩
theorem wy.YQ {S T:Nat→Prop}{x:fF}{t:ax}(h:wy base S w x t)(hS:∀ y,S y→y<w.heap.size→T y):wy base T w x t :=
 ⟨h.1,h.2.1,h.2.2.1,(RSl.fair aQ.fair).mono h.2.2.2.1 hS,(RSl.fair aO.fair).mono h.2.2.2.2 hS⟩
theorem wy.flt {S:Nat→Prop}{x:fF}{t:ax}(h:wy base S w x t){k:Nat}(hk:x.fb=some k):base≤k∧k<w.heap.size:=h.2.2.1.lt hk
theorem jy.kept (h:jy base w v xs ts)(hk:az (fun y=>base≤y) w w'):jy base w' v xs ts :=
 ⟨h.row.air bg.fair hk (fun _ e=>(h.row.lt e).1),h.apart,h.all.mono fun _ _ _ hx=>hx.Zl hk (fun _ hy=>hy.1) (fun _ e=>(hx.flt e).1)⟩
theorem jy.len (h:jy base w v xs ts):xs.length=ts.length:=h.all.len
theorem jy.flt (h:jy base w v xs ts){x:fF}(hx:x∈xs){k:Nat}(hk:x.fb=some k):base≤k∧k<w.heap.size:=by
 obtain⟨t,_,ht⟩:=h.all.left x hx;exact ht.flt hk
theorem jy.fne (h:jy base w v xs ts){x:fF}(hx:x∈xs){k:Nat}(hk:x.fb=some k):v.ownBlock≠some k:=by
 obtain⟨t,_,ht⟩:=h.all.left x hx;intro hv;rcases own_ne ht.2.2.1 h.row (by decide) with h0 | h0
 ·rw[show x.fv.ownBlock=some k from hk] at h0;cases h0
 ·exact h0 (by rw[show x.fv.ownBlock=some k from hk,hv])
theorem jy.push {g:Nat}{w1 w2 w3:World}{x:fF}{t:ax}{v':Value}(h:jy base w v xs ts)(hg:w.grownBy w1 (some g))(hgb:g<base)(hb:base≤w.heap.size)
  (hx:wy w.heap.size (fun y=>w.heap.size≤y∧x.fb≠some y) w1 x t) (ha:Below w1.heap.size w1 w2)
  (ho:Own base 53 5 bg NoT w3 v' (xs++[x])) (hg3:w2.grownBy w3 v.ownBlock) (hv:v'.ownBlock=v.ownBlock∨v'.ownBlock=some w2.heap.size):jy base w3 v' (xs++[x]) (ts++[t]):=by
 have s1:=hg.size;have s2:=ha.size;have s3:=hg3.size;refine⟨ho,?_,?_⟩
 ·refine List.pairwise_append.2 ⟨h.apart,List.pairwise_singleton _ _,fun a hxa b hb' k hk hk'=>?_⟩;rw[List.mem_singleton] at hb';subst hb';have:=(h.flt hxa hk).2;have:=(hx.flt hk').1;omega
 ·refine nz.append ?_ (.cons ?_ .nil)
  ·refine h.all.mono fun a b hm hab=>?_
   have hK:az (fun y=>(base≤y∧v.ownBlock≠some y)∧y<w.heap.size) w w3 :=
    ((az.bH hg (fun k e hk=>by injection e with e;omega)).trans ((az.of_below ha).mono (fun _ h=>h))).trans (az.bH hg3 (fun k e hk=>hk.1.2 e))
   have hab2:wy base (fun y=>Rest base v xs y∧y<w.heap.size) w a b:=hab.YQ fun y hy hl=>⟨hy,hl⟩
   refine(hab2.Zl hK (fun y hy=>⟨⟨hy.1.1,hy.1.2.1⟩,hy.2⟩) (fun k hk=>⟨⟨(h.flt hm hk).1,h.fne hm hk⟩,(h.flt hm hk).2⟩)).YQ ?_;rintro y ⟨⟨h1,h2,h3⟩,h4⟩ -;refine⟨h1,?_,?_⟩
   ·rcases hv with hv | hv
    ·rw[hv];exact h2
    ·rw[hv];intro e;injection e with e;omega
   ·intro z hz;rcases List.mem_append.1 hz with hz | hz
    ·exact h3 z hz
    ·rw[List.mem_singleton.1 hz];intro e;have:=(hx.flt e).1;omega
  ·have hx2:wy w.heap.size (fun y=>(w.heap.size≤y∧x.fb≠some y)∧y<w1.heap.size) w1 x t:=hx.YQ fun y hy hl=>⟨hy,hl⟩
   have hK:az (fun y=>w.heap.size≤y∧y<w1.heap.size) w1 w3 :=
    ((az.of_below ha).mono (fun _ h=>h)).trans (az.bH hg3 (fun k e hk=>by have:=(h.row.lt e).2;omega))
   have h3:=(hx2.Zl hK (fun y hy=>⟨hy.1.1,hy.2⟩) (fun k hk=>hx.flt hk)).YQ (T:=Rest base v' (xs++[x])) (by
    rintro y ⟨⟨h1,h2⟩,h4⟩ -;refine⟨by omega,?_,?_⟩
    ·rcases hv with hv | hv
     ·rw[hv];intro e;have:=(h.row.lt e).2;omega
     ·rw[hv];intro e;injection e with e;omega
    ·intro z hz;rcases List.mem_append.1 hz with hz | hz
     ·intro e;have:=(h.flt hz e).2;omega
     ·rw[List.mem_singleton.1 hz];exact h2)
   exact⟨h3.1,h3.2.1,h3.2.2.1.alj hb,h3.2.2.2.1,h3.2.2.2.2⟩
theorem jy.book (h:jy base w v xs ts)(hl:ts.length≤5000)(hf:∀ t∈ts,t.fields.length≤5000):RSl 5 96 ah (fun y=>base≤y) w [v] ts:=by
 have hlen:=h.len;have key:Own base 53 5 ah (fun y=>base≤y∧v.ownBlock≠some y) w v ts:=by
  obtain⟨css,h1,h2,h3,h4⟩:=h.row;rw[hlen] at h1 h2;refine⟨css,h1,h2,fun k hk hc=>hc.2 hk,fun k t cs ht hc=>?_⟩;have hk:k<ts.length:=by
   rcases Nat.lt_or_ge k ts.length with h | h
   ·exact h
   ·rw[List.getElem?_eq_none h] at ht;cases ht
  have hkx:k<xs.length:=by omega
  obtain⟨q1,q2⟩:=h4 k xs[k] cs (List.getElem?_eq_getElem hkx) hc;have he:ts[k]=t:=by rw[List.getElem?_eq_getElem hk] at ht;injection ht
  have hr:=h.all.get hkx hk;rw[he] at hr;have e:cs=pG xs[k]:=q2;refine⟨q1,xs[k].fv,_,_,?_,?_,(RSl.fair aQ.fair).mono hr.2.2.2.1 fun y hy _=>⟨hy.1,hy.2.1⟩,(RSl.fair aO.fair).mono hr.2.2.2.2 fun y hy _=>⟨hy.1,hy.2.1⟩⟩
  rotate_left
  ·exact hr.2.2.1.read (S:=fun y=>base≤y∧v.ownBlock≠some y) (by_:=56) aH.fair (fun _ h _=>h.elim) (fun k' e'=>⟨(hr.flt e').1,h.fne (List.getElem_mem hkx) e'⟩) (by have:=hf t (he ▸ List.getElem_mem hk);omega)
  ·rw[e,←hr.1,←hr.2.1];rfl
 refine(RSl.fair ah.fair).mono (key.read (S:=fun y=>base≤y) (by_:=96) ah.fair (fun y hy _=>hy.1) (fun k hk=>(key.lt hk).1) (by omega)) (fun y hy _=>hy)
theorem jy.sorted {ys:List fF}(h:jy base w v xs ts)(ho:Own base 53 5 bg NoT w' v ys)(hp:ys.Perm xs)(hg:w.grownBy w' v.ownBlock)(hs:xs.length<20→ys=bL uf xs) :
  ∃ ts',jy base w' v ys ts'∧ts'.length=ts.length∧(∀ t∈ts',t∈ts)∧(ts.length<20→ts'=bL kH ts):=by
 have hlen:=h.len;have hK:az (fun y=>base≤y∧v.ownBlock≠some y) w w':=az.bH hg (fun k e hk=>hk.2 e);have hrest:∀ y,Rest base v xs y→Rest base v ys y:=fun y hy=>⟨hy.1,hy.2.1,fun x hx=>hy.2.2 x (hp.mem_iff.1 hx)⟩
 have hall:nz (wy base (Rest base v ys) w') xs ts:=h.all.mono fun x t hx hr=>(hr.Zl hK (fun y hy=>⟨hy.1,hy.2.1⟩) (fun k hk=>⟨(hr.flt hk).1,h.fne hx hk⟩)).YQ fun y hy _=>hrest y hy
 have hap:ys.Pairwise LJ:=(hp.pairwise_iff (fun h=>LJ.symm h)).2 h.apart
 by_cases h20:xs.length<20
 ·have e:=hs h20;have h2:=UR (lt:=uf) (lt':=kH) (fun a b a' b' ha hb=>by unfold uf kH;rw[ha.1,hb.1]) hall;refine⟨bL kH ts,⟨ho,hap,by rw[e];rw[e] at h2;exact h2⟩,nu ts,fun t ht=>(xU ts).mem_iff.1 ht,fun _=>rfl⟩
 ·obtain⟨m,hm⟩:=nz.akr (P:=fun x t=>wy base (Rest base v ys) w' x t∧t∈ts) (l:=ys) fun x hx=>by
   obtain⟨t,ht,hr⟩:=hall.left x (hp.mem_iff.1 hx);exact⟨t,hr,ht⟩
  refine⟨m,⟨ho,hap,hm.mono fun _ _ _ h=>h.1⟩,by rw[←hm.len,hp.length_eq,hlen],fun t ht=>?_,fun h=>by omega⟩;obtain⟨i,hi,rfl⟩:=List.getElem_of_mem ht;exact(hm.get (i:=i) (by rw[hm.len];exact hi) hi).2
end
theorem YI {α:Type}{k:Nat}{css:List (List α)}(hall:∀ x∈css,x.length=k){i:Nat}(hi:i<css.length){j:Nat}(hj:j<k)(u:α):css.flatten.set (i*k+j) u=(css.set i (css[i].set j u)).flatten:=by
 have e1:css=css.take i++(css[i]::css.drop (i+1)):=by
  rw[←List.drop_eq_getElem_cons hi,List.take_append_drop]
 have e2:css.set i (css[i].set j u)=css.take i++(css[i].set j u::css.drop (i+1)):=by
  rw[List.set_eq_take_append_cons_drop,if_pos hi]
 have hl:(css.take i).flatten.length=i*k:=by
  rw[qz k _ (fun x hx=>hall x (List.mem_of_mem_take hx)),List.length_take,Nat.min_eq_left (by omega)]
 have hik:css[i].length=k:=hall _ (List.getElem_mem hi);rw[e2]
 conv=>lhs;rw[e1]
 rw[List.flatten_append,List.flatten_cons,List.flatten_append,List.flatten_cons,List.set_append,if_neg (by omega),hl,Nat.add_sub_cancel_left,List.set_append,if_pos (by omega)]
theorem Own.cell_ {α:Type}{base e sz g cap n:Nat}{enc:α→List Value}{w:World}{xs:List α}(h:Own base e sz (dS enc) NoT w (.slice (some ⟨g,0,none⟩) n cap) xs){i j:Nat}(hi:i<xs.length)(hj:j<sz){u:Value}{x:α}(hx:enc x=(enc xs[i]).set j u) :
  Own base e sz (dS enc) NoT (w.setCell ⟨g,i*sz+j,none⟩ u) (.slice (some ⟨g,0,none⟩) n cap) (xs.set i x):=by
 have hn:=h.len;subst hn;obtain⟨css,h1,h2,h3,h4⟩:=h;have hall:∀ c∈css,c.length=sz:=by
  intro c hc;obtain⟨j,hj,rfl⟩:=List.getElem_of_mem hc;exact(h4 j (xs[j]'(by omega)) _ (List.getElem?_eq_getElem (by omega)) (List.getElem?_eq_getElem hj)).1
 obtain⟨a,-⟩:=h1.stored (i*sz+j) u;refine⟨css.set i ((css[i]'(by omega)).set j u),by rw[List.length_set,←YI hall (by omega) hj];exact a,by simp[h2],h3,?_⟩;intro k y c hy hc
 by_cases ek:k=i
 ·subst ek;rw[List.getElem?_set_self (by omega)] at hy hc;simp only[Option.some.injEq] at hy hc;obtain⟨b1,b2⟩:=h4 k _ _ (List.getElem?_eq_getElem hi) (List.getElem?_eq_getElem (by omega));subst hy hc;have b2':css[k]=enc xs[k]:=b2;exact⟨by rw[List.length_set];exact b1,show _=enc x by rw[hx,b2']⟩
 ·rw[List.getElem?_set_ne (fun h=>ek h.symm)] at hy hc;obtain⟨b1,b2⟩:=h4 k y c hy hc;exact⟨b1,b2⟩
section
variable {base:Nat}{w w':World}{v:Value}{xs:List fF}{ts:List ax}
theorem jy.kind (h:jy base w v xs ts){i k g:Nat}(hi:i<xs.length)(hi':i<ts.length)(hk:k<ts[i].fields.length)(hg:xs[i].F=some ⟨g,0,none⟩)(κ:Int) :
  jy base (w.setCell ⟨g,k*5+3,none⟩ (O κ)) v xs (ts.set i { ts[i] with fields:=ts[i].fields.set k { ts[i].fields[k] with kind:=κ } }):=by
 have hfb:xs[i].fb=some g:=by unfold fF.fb fF.fv;rw[hg];rfl
 have hm:=List.getElem_mem hi;have hK:az (fun y=>y≠g) w (w.setCell ⟨g,k*5+3,none⟩ (O κ)):=az.setCell w _ (fun h=>h rfl);refine⟨h.row.air bg.fair hK (fun y hy e=>h.fne hm hfb (by rw[hy,e])),h.apart,nz.ajC (by rw[List.length_set];exact h.len) ?_⟩;intro j h1 h2;rw[List.length_set] at h2;have hj:=h.all.get h1 h2
 by_cases e:i=j
 ·subst e;rw[List.getElem_set_self];obtain⟨q1,q2,q3,q4,q5⟩:=hj;have hv:xs[i].fv=.slice (some ⟨g,0,none⟩) xs[i].f xs[i].p:=by unfold fF.fv;rw[hg]
  rw[hv] at q3;refine⟨q1,q2,?_,(RSl.fair aQ.fair).keep q4 (hK.mono fun y hy e=>hy.2.2 _ hm (by rw[e];exact hfb)),(RSl.fair aO.fair).keep q5 (hK.mono fun y hy e=>hy.2.2 _ hm (by rw[e];exact hfb))⟩;rw[hv];exact q3.cell_ hk (by decide) rfl
 ·rw[List.getElem_set_ne e];refine hj.Zl hK (fun y hy e'=>hy.2.2 _ hm (by rw[e'];exact hfb)) (fun y hy e'=>?_);rw[e'] at hy;rcases Nat.lt_or_gt_of_ne e with hlt | hlt
  ·exact List.pairwise_iff_getElem.1 h.apart i j hi h1 hlt g hfb hy
  ·exact List.pairwise_iff_getElem.1 h.apart j i h1 hi hlt g hy hfb
theorem jy.lies (h:jy base w v xs ts){i:Nat}(hi:i<xs.length):∃ g cap,v=.slice (some ⟨g,0,none⟩) xs.length cap∧xs.length≤cap∧g<w.heap.size∧ik w g (i*5) (pG xs[i]):=by
 obtain⟨A,cap,hv,hc⟩:=h.row.form;have hr:=h.row;rw[hv] at hr;obtain⟨g,hA,-,hgl⟩:=hr.qR (by omega);subst hA;obtain⟨cs,-,h2,h3⟩:=hr.cells hi;have e:cs=pG xs[i]:=h2;rw[e] at h3;exact⟨g,cap,hv,hc,hgl,h3⟩
theorem jy.field (h:jy base w v xs ts){i k:Nat}(hi:i<xs.length)(hi':i<ts.length)(hk:k<ts[i].fields.length):∃ g,xs[i].F=some ⟨g,0,none⟩∧g<w.heap.size∧base≤g∧xs[i].f=ts[i].fields.length∧xs[i].f≤xs[i].p∧ik w g (k*5) (aI ts[i].fields[k])∧∀ o,w.frozen? ⟨g,o,none⟩=false:=by
 have hj:=(h.all.get hi hi').2.2.1;obtain⟨A,cap,hv,hc⟩:=hj.form;injection hv with e1 e2 e3
 have hj':Own base 55 5 aH NoT w (.slice xs[i].F xs[i].f xs[i].p) ts[i].fields:=hj;obtain⟨g,hA,hbg,hgl⟩:=hj'.qR (by omega);rw[hA] at hj';obtain⟨cs,-,h2,h3⟩:=hj'.cells hk;have e:cs=aI ts[i].fields[k]:=h2;rw[e] at h3;exact⟨g,hA,hgl,hbg,e2,by omega,h3,fun o=>hj'.frozen o⟩
theorem jy.anr (h:jy base w v xs ts){i:Nat}(hi:i<xs.length)(hi':i<ts.length):xs[i].f=ts[i].fields.length:=by
 have hj':Own base 55 5 aH NoT w (.slice xs[i].F xs[i].f xs[i].p) ts[i].fields:=(h.all.get hi hi').2.2.1;exact hj'.len
end
end
section
open Go.Proofs.Tryz
theorem aes:∀ (k:Nat) (r:Rd) (acc:List dC),Small r→Small (nP k r acc).2∧rdM (nP k r acc).2≤rdM r
 | 0,_,_,h=>⟨h,Nat.le_refl _⟩
 | k+1,r,acc,h=>by
  rw[nP];split
  ·next hc =>
   have a:=oH hc.1;have b:=vD r.number.2;have c:=lD r.number.2.word.2 ku;have ih:=aes k (r.number.2.word.2.take ku) (acc++[⟨r.number.2.word.1,r.number.1⟩]) (h.number.word.take _);exact⟨ih.1,by omega⟩
  ·exact⟨h,Nat.le_refl _⟩
theorem ajM:∀ (k:Nat) (r:Rd) (acc:List Int),Small r→Small (mQ k r acc).2∧rdM (mQ k r acc).2≤rdM r
 | 0,_,_,h=>⟨h,Nat.le_refl _⟩
 | k+1,r,acc,h=>by
  rw[mQ];split
  ·next hc =>
   have a:=oH hc.1;have ih:=ajM k r.number.2 (acc++[r.number.1]) h.number;exact⟨ih.1,by omega⟩
  ·exact⟨h,Nat.le_refl _⟩
theorem Yx:∀ (k:Nat) (r:Rd) (fs:List ay) (gs:List Int),Small r→Small (jH k r fs gs).2.2∧rdM (jH k r fs gs).2.2≤rdM r
 | 0,_,_,_,h=>⟨h,Nat.le_refl _⟩
 | k+1,r,fs,gs,h=>by
  rw[jH];split
  ·next hc =>
   split
   ·have g:=ajM (r.l.length+2) r.next.2 gs h.next.1;have a:=Ae r;have c:=lD (mQ (r.l.length+2) r.next.2 gs).2 ku;have ih:=Yx k ((mQ (r.l.length+2) r.next.2 gs).2.take ku) fs (mQ (r.l.length+2) r.next.2 gs).1 (g.1.take _);exact⟨ih.1,by omega⟩
   ·have a:=EZ hc.1;have c:=lD (kJ r).2 ku;have ih:=Yx k ((kJ r).2.take ku) (fs++[(kJ r).1]) gs (h.field.take _);exact⟨ih.1,by omega⟩
  ·exact⟨h,Nat.le_refl _⟩
theorem aiO {r:Rd}(h:Small r):Small (vS r).2∧rdM (vS r).2≤rdM r:=by
 have g:=aes ((r.word.2.take mP).l.length+2) (r.word.2.take mP) [] (h.word.take _);have a:=vD r;have b:=lD r.word.2 mP;have c:=lD (nP ((r.word.2.take mP).l.length+2) (r.word.2.take mP) []).2 il;refine⟨g.1.take il,?_⟩;show rdM ((nP ((r.word.2.take mP).l.length+2) (r.word.2.take mP) []).2.take il)≤rdM r;omega
theorem VX {r:Rd}(h:Small r):Small (mZ r).2∧rdM (mZ r).2≤rdM r:=by
 have g:=Yx ((r.word.2.take mP).l.length+2) (r.word.2.take mP) [] [] (h.word.take _);have a:=vD r;have b:=lD r.word.2 mP;have c:=lD (jH ((r.word.2.take mP).l.length+2) (r.word.2.take mP) [] []).2.2 il;refine⟨g.1.take il,?_⟩;show rdM ((jH ((r.word.2.take mP).l.length+2) (r.word.2.take mP) [] []).2.2.take il)≤rdM r;omega
theorem Qd {r:Rd}(k:Nat)(us:List ax)(h:¬ (0<r.l.length∧r.bad=false)):jh k r us=(us,r):=by
 cases k with
 | zero=>rfl
 | succ k=>rw[jh,if_neg h]
theorem TE {r:Rd}{k:Nat}(us:List ax)(h0:0<r.l.length)(h1:r.bad=false)(h2:r.next.1=lH)(h3:Small r)(h4:rdM r≤k) :
  ∃ k',rdM (mZ r.next.2).2≤k'∧jh k r us=jh k' (mZ r.next.2).2 (us++[(mZ r.next.2).1]):=by
 have a:=sW h1;have b:=(VX h3.next.1).2;cases k with
 | zero=>omega
 | succ k=>exact⟨k,by omega,by rw[jh,if_pos ⟨h0,h1⟩,if_pos h2]⟩
theorem ach {r:Rd}{k:Nat}(us:List ax)(h0:0<r.l.length)(h1:r.bad=false)(h2:r.next.1≠lH)(h2':r.next.1=yu)(h3:Small r)(h4:rdM r≤k) :
  ∃ k',rdM (vS r.next.2).2≤k'∧jh k r us=jh k' (vS r.next.2).2 (us++[(vS r.next.2).1]):=by
 have a:=sW h1;have b:=(aiO h3.next.1).2;cases k with
 | zero=>omega
 | succ k=>exact⟨k,by omega,by rw[jh,if_pos ⟨h0,h1⟩,if_neg h2,if_pos h2']⟩
theorem ahm {r:Rd}{k:Nat}(us:List ax)(h0:0<r.l.length)(h1:r.bad=false)(h2:r.next.1≠lH)(h2':r.next.1≠yu)(h4:rdM r≤k):jh k r us=jh 0 ⟨r.next.2.l,true⟩ us:=by
 have a:=sW h1;cases k with
 | zero=>omega
 | succ k =>
  have e:jh (k+1) r us=(us,⟨r.next.2.l,true⟩):=by rw[jh,if_pos ⟨h0,h1⟩,if_neg h2,if_neg h2']
  rw[e];rfl
def BD (q:List ax × Rd):av × Int :=
 if q.2.bad then ([],1)
 else if aB (rJ (bL kH q.1))≠0 then ([],aB (rJ (bL kH q.1)))
 else (rJ (bL kH q.1),0)
theorem Nf {s:List UInt8}(h:s.length≤4000)(h2:spl s=none):iZ s=([],1):=by
 rw[iZ,if_neg (by omega),show jJ s.length s=none from h2]
theorem Nb {s:List UInt8}{l:List ByteArray}(h:s.length≤4000)(h2:spl s=some l):iZ s=BD (jh (l.length+2) ⟨l,false⟩ []):=by
 rw[iZ,if_neg (by omega),show jJ s.length s=some l from h2];rfl
theorem Bz:∀ (k:Nat) (s:List UInt8) (l:List ByteArray),jJ k s=some l→l.length≤s.length∧∀ x∈l,x.size≤s.length
 | 0,_,l,h=>by
  rw[jJ] at h;injection h with h;subst h
  exact⟨Nat.zero_le _,fun x hx=>by cases hx⟩
 | _+1,[],l,h=>by
  rw[jJ] at h;injection h with h;subst h
  exact⟨Nat.zero_le _,fun x hx=>by cases hx⟩
 | k+1,c::s,l,h=>by
  have key:∀ (s':List UInt8) (wd:ByteArray),s'.length≤s.length→wd.size≤s.length+1→(jJ k s').map (wd :: ·)=some l→l.length≤(c::s).length∧∀ x∈l,x.size≤(c::s).length:=by
   intro s' wd h1 h2 h3;cases hs:jJ k s' with
   | none=>rw[hs] at h3;cases h3
   | some m =>
    rw[hs] at h3;injection h3 with h3
    subst h3;obtain⟨a,b⟩:=Bz k s' m hs;refine⟨by simp;omega,fun x hx=>?_⟩;rcases List.mem_cons.1 hx with rfl | hx
    ·simpa using h2
    ·have:=b x hx;simp;omega
  have hd:∀ (p:UInt8→Bool),(s.dropWhile p).length≤s.length∧(s.takeWhile p).length≤s.length:=by
   intro p;have:=congrArg List.length (List.takeWhile_append_dropWhile (p:=p) (l:=s));rw[List.length_append] at this;omega
  rw[jJ] at h;split at h
  ·obtain⟨a,b⟩:=Bz k s l h;exact⟨by simp;omega,fun x hx=>by have:=b x hx;simp;omega⟩
  ·split at h
   ·exact key s ⟨#[c]⟩ (Nat.le_refl _) (by show 1≤_;omega) h
   ·split at h
    ·exact key _ _ (hd isLet).1 (by show ((c::s.takeWhile isLet).toArray).size≤_;simp;exact(hd isLet).2) h
    ·split at h
     ·exact key _ _ (hd jK).1 (by show ((c::s.takeWhile jK).toArray).size≤_;simp;exact(hd jK).2) h
     ·cases h
theorem afX {s:List UInt8}{l:List ByteArray}(h:spl s=some l)(hs:s.length≤4000):Small ⟨l,false⟩:=by
 obtain⟨a,b⟩:=Bz _ _ _ h;exact⟨Nat.le_trans a hs,fun x hx=>Nat.le_trans (b x hx) hs⟩
open Go.RowKit
def fO (t:ax)(L:List ay):ax:={ t with fields:=L }
theorem Us:∀ (b:av) (i:Nat) (h:i<b.length) (L:List ay),heads (b.set i (fO b[i] L))=heads b
 | [],i,h,_=>by simp at h
 | t::b,0,_,L=>rfl
 | t::b,i+1,h,L=>by
  have:=Us b i (by simpa using h) L;simp only[heads,List.set_cons_succ,List.map_cons,List.getElem_cons_succ] at this ⊢;rw[this]
def part {α:Type}(f:α→α)(l:List α)(n:Nat):List α:=(l.take n).map f++l.drop n
theorem LU {α:Type}(f:α→α)(l:List α):part f l 0=l:=by simp[part]
theorem Zg {α:Type}(f:α→α)(l:List α){n:Nat}(h:l.length≤n):part f l n=l.map f:=by
 unfold part;rw[List.take_of_length_le h,List.drop_eq_nil_of_le h,List.append_nil]
theorem vK {α:Type}(f:α→α)(l:List α)(n:Nat):(part f l n).length=l.length:=by
 simp[part];omega
theorem OP {α:Type}(f:α→α)(l:List α){n:Nat}(h:n<l.length):(part f l n)[n]'(by rw[vK];exact h)=l[n]:=by
 have:(part f l n)[n]? = some l[n]:=by
  unfold part;rw[List.getElem?_append_right (by simp;omega)];simp[List.length_take,Nat.min_eq_left (Nat.le_of_lt h),List.getElem?_eq_getElem h]
 rw[List.getElem?_eq_getElem (by rw[vK];exact h)] at this;injection this
theorem Fb {α:Type}(f:α→α)(l:List α){n:Nat}(h:n<l.length):(part f l n).set n (f l[n])=part f l (n+1):=by
 unfold part;rw[List.set_append,if_neg (by simp;omega)];have e:n-(List.map f (List.take n l)).length=0:=by simp;omega
 rw[e,List.drop_eq_getElem_cons h,List.set_cons_zero,List.take_succ_eq_append_getElem h,List.map_append];simp
theorem ahj {α:Type}(f:α→α)(l:List α){n:Nat}(h:n<l.length)(hf:f l[n]=l[n]):part f l (n+1)=part f l n:=by
 have:=Fb f l h;rw[hf] at this;rw[←this];refine List.ext_getElem (by simp) fun i h1 h2=>?_
 by_cases e:n=i
 ·subst e;rw[List.getElem_set_self,OP f l h]
 ·rw[List.getElem_set_ne e]
theorem abZ (e:ByteArray→Bool)(b:av)(n:Nat):heads (part (qN e) b n)=heads b:=by
 have h:heads (part (qN e) b n)=heads (b.take n)++heads (b.drop n):=by
  unfold part;rw[←abM e (b.take n)];simp[heads]
 rw[h];simp only[heads,←List.map_append,List.take_append_drop]
theorem aiX {α:Type}{f:α→α}{l:List α}{n:Nat}{x:α}(h:x∈part f l n):∃ u∈l,x=f u∨x=u:=by
 rcases List.mem_append.1 h with h | h
 ·obtain⟨u,hu,rfl⟩:=List.mem_map.1 h;exact⟨u,List.mem_of_mem_take hu,.inl rfl⟩
 ·exact⟨x,List.mem_of_mem_drop h,.inr rfl⟩
theorem QM {e:ByteArray→Bool}{ts:List ax}{n i:Nat}{t0:ax}{L:List ay}(h:∀ t∈ts,Xa t)(hL:L.length≤5000):∀ t∈(part (qN e) ts n).set i (fO t0 L),t.fields.length≤5000:=by
 intro t ht;rcases List.mem_or_eq_of_mem_set ht with ht | rfl
 ·obtain⟨u,hu,rfl | rfl⟩:=aiX ht
  ·show (u.fields.map _).length≤5000;rw[List.length_map];exact(h u hu).2.1
  ·exact(h _ hu).2.1
 ·exact hL
theorem age {ts:List ax}{n:Nat}(hn:n<ts.length)(L:List ay)(name:ByteArray):tK ((part (qN (tK ts)) ts n).set n (fO ts[n] L)) name=tK ts name:=by
 refine Jo _ _ ?_ name;have h1:n<(part (qN (tK ts)) ts n).length:=by rw[vK];exact hn
 have:=Us (part (qN (tK ts)) ts n) n h1 L;rw[OP _ _ hn] at this;rw[this,abZ]
section
variable {base:Nat}{w w':World}{v:Value}{xs:List fF}{ts:List ax}
theorem jy.alx {t:ax}{L:List ay}{i k g:Nat}(h:jy base w v xs (ts.set i (fO t L)))(hi:i<xs.length)(hk:k<L.length)(hg:xs[i].F=some ⟨g,0,none⟩)(κ:Int) :
  jy base (w.setCell ⟨g,k*5+3,none⟩ (O κ)) v xs (ts.set i (fO t (L.set k { L[k] with kind:=κ }))):=by
 have hl:=h.len;have hi':i<(ts.set i (fO t L)).length:=by omega
 have he:(ts.set i (fO t L))[i]=fO t L:=List.getElem_set_self hi';have hke:k<(ts.set i (fO t L))[i].fields.length:=by rw[he];exact hk
 have:=h.kind hi hi' hke hg κ;simp only[List.set_set] at this;have e2:({ (ts.set i (fO t L))[i] with fields:=(ts.set i (fO t L))[i].fields.set k { (ts.set i (fO t L))[i].fields[k] with kind:=κ } }:ax)=fO t (L.set k { L[k] with kind:=κ }):=by
  simp only[he];rfl
 rw[e2] at this;exact this
theorem jy.ace {t:ax}{L:List ay}{i k:Nat}(h:jy base w v xs (ts.set i (fO t L)))(hi:i<xs.length)(hk:k<L.length):∃ g,xs[i].F=some ⟨g,0,none⟩∧g<w.heap.size∧base≤g∧xs[i].f=L.length∧xs[i].f≤xs[i].p∧ik w g (k*5) (aI L[k])∧∀ o,w.frozen? ⟨g,o,none⟩=false:=by
 have hl:=h.len;have hi':i<(ts.set i (fO t L)).length:=by omega
 have he:(ts.set i (fO t L))[i]=fO t L:=List.getElem_set_self hi';have hke:k<(ts.set i (fO t L))[i].fields.length:=by rw[he];exact hk
 obtain⟨g,h1,h2,h3,h4,h5,h6,h7⟩:=h.field hi hi' hke;have e4:(ts.set i (fO t L))[i].fields.length=L.length:=by rw[he];rfl
 have e6:(ts.set i (fO t L))[i].fields[k]=L[k]:=by simp only[he];rfl
 rw[e4] at h4;rw[e6] at h6;exact⟨g,h1,h2,h3,h4,h5,h6,h7⟩
theorem acS (t:ax):fO t t.fields=t:=rfl
end
end
section
open Go.Proofs.Tryz
open Go.RowKit
theorem agn:dK prog 36 53 5 96:=dK.mk (z:=.agg #[.string .empty,.bool false,Z0,Z0,Z0]) underlying36 (by decide) (by decide) (by kernel_rfl) rfl
def akd (w:World)(p:av × Int)(e:Ending)(w':World):Prop :=
 ∃ v,e=.returned (.tuple #[.agg #[v],O p.2])∧RSl 5 96 ah (fun y=>w.heap.size≤y) w' [v] p.1∧Below w.heap.size w w'
theorem qX {W:World}{a:Act}{g:Nat}{v:Value}{n:Int}(hb:Box W g 38 [v])(h2:a.tmps.getD 2 undef=.pointer (some ⟨g,0,none⟩))(h3:a.tmps.getD 3 undef=O n) :
  (results f10 a.tmps).run prog W=.ok (.tuple #[.agg #[v],O n]) W:=by
 have c0:=hb.c 0 rfl;simp only[Array.getD_eq_getD_getElem?] at h2 h3;simp[results,results10,go_sem,h2,h3,c0]
theorem FI (x y:ByteArray)(l:List UInt8)(h:y.data.toList=l):(x.toList==l)=decide (x=y):=by rw[←h,←ByteArray.toList_eq];exact ba_eq x y
theorem wS (s:ByteArray)(w:World)(hs:s.size≤9223372036854775807)(hW:Words w)(hN:wO w)(hL:Lists w):Calls prog 10 #[.string s] w (akd w (iZ (bytes s))):=by
 obtain⟨p,hp⟩:=exE (iZ (bytes s));rw[←hp];have Hp:=hidL hp;have HW:=hidL hW;have HN:=hidL hN;have HL:=hidL hL;have hZ0:=Box.new w 38 [Z0];have hG0:Below w.heap.size w (w.alloc (.cells [Z0].toArray 38)):=(Below.here w).alloc (Nat.le_refl _) _;clear hp hW hN hL
 by_cases hl:4000<s.size
 ·--[LONG
  have He:Hid (p=([],7)):=by show _=_;rw[Hp.out,iZ,if_pos (show 4000<(bytes s).length from hl)]
  have f0:=hZ0.frozen 0;have c0:=hZ0.cell 0;have hl2:(4000:Int)<(s.size:Int):=by omega
  clear hl;go_enter func10,ntmps10;go_wp2_with fail;refine bodyPost_ret (qX hZ0 rfl rfl) rfl ?_;exact⟨_,by rw[He.out],by rw[He.out];exact RSl.dJ,hG0⟩
 ·have hsz:s.size≤4000:=by omega
  have Hsz:=hidL hsz;have hl2:¬ (4000:Int)<(s.size:Int):=by omega
  have hsp:=hidL (fun W=>ahB s W hsz);clear hl hsz hs;go_enter func10,ntmps10;go_wp2_with fail;generalize (World.alloc w (.cells _ _))=w0 at hZ0 hG0 ⊢;refine(hsp.out w0).mono ?_;rintro e w1 ⟨vl,rfl,hrl,hb1⟩;have hZ1:=hZ0.below hb1 hZ0.lt;have hG1:=aa hG0 hb1 hG0.size;obtain⟨ml,hml⟩:=exE (spl (bytes s));rw[←hml] at hrl ⊢;have Hml:=hidL hml;clear hml hZ0 hG0 hb1;cases ml with
  | none =>
   have hZ2:=hZ1.gB 0 (Z0);have hG2:=hG1.setCell (p:=⟨w.heap.size,0,none⟩) (Nat.le_refl _) (Z0);have He:Hid (p=([],1)):=by show _=_;rw[Hp.out];exact Nf Hsz.out Hml.out.symm
   have f0:=hZ1.frozen 0;have c0:=hZ1.cell 0;have hz:=hZ1.lt;go_wp2_with fail;refine bodyPost_ret (qX hZ2 rfl rfl) rfl ?_;exact⟨_,by rw[He.out],by rw[He.out];exact RSl.dJ,hG2⟩
  | some l =>
   have Hr:Hid (p=BD (jh (l.length+2) ⟨l,false⟩ [])):=by show _=_;rw[Hp.out];exact Nb Hsz.out Hml.out.symm
   have Hs0:=hidL (afX Hml.out.symm Hsz.out);obtain⟨Al,cl,rfl,-,-⟩:=hrl.form;simp only[Option.getD_some] at hrl ⊢;have hrl1:=(RSl.fair lQ.fair).mono hrl (T:=fun y=>y<w1.heap.size) (fun y _ h=>h);clear hrl;go_wp2_with fail;have hR2:Rdr (fun y=>y<w1.heap.size) ((w1.alloc (.cells [Value.slice Al l.length cl,.bool false].toArray 86)).alloc (.cells [Z0].toArray 38)) w1.heap.size ⟨l,false⟩ :=
    ⟨_,(bY w1 [.slice Al l.length cl,.bool false] [Z0] 86 38).1,(RSl.fair lQ.fair).below hrl1 (bY w1 [.slice Al l.length cl,.bool false] [Z0] 86 38).2.2⟩
   have hX2:=(bY w1 [.slice Al l.length cl,.bool false] [Z0] 86 38).2.1;have hG2:=aa hG1 (bY w1 [.slice Al l.length cl,.bool false] [Z0] 86 38).2.2 hG1.size;have hZ2:=hZ1.below (bY w1 [.slice Al l.length cl,.bool false] [Z0] 86 38).2.2 hZ1.lt;have hlt:w.heap.size<w1.heap.size:=hZ1.lt;clear hrl1 hZ1 hG1;generalize (World.alloc (World.alloc w1 _) _)=w2 at hR2 hX2 hG2 hZ2 ⊢;obtain⟨g,hg⟩:=exE w1.heap.size;rw[←hg] at hR2 hX2 hlt ⊢;clear hg;go_loopw [] (fun wr=>∃ (q:Rd) (xs:List fF) (v:Value) (ts us:List ax) (k:Nat),Rdr (fun y=>y<g) wr g q∧Box wr (g+1) 38 [v]∧Box wr w.heap.size 38 [Z0]∧jy (g+2) wr v xs ts∧nz SG ts us∧Below w.heap.size w wr∧Hid (Small q∧rdM q≤k∧ts.length+rdM q≤4001∧jh (l.length+2) ⟨l,false⟩ []=jh k q us)) (fun wr=>Ll wr g)
   case atStart=>exact⟨⟨l,false⟩,[],_,[],[],l.length+2,hR2,hX2,hZ2,jy.dJ _ _,.nil,hG2,(show _∧_ from⟨Hs0.out,by show l.length+1≤_;omega,by show 0+(l.length+1)≤_;have:l.length≤4000:=Hs0.out.1;omega,rfl⟩)⟩
   case round =>
    clear hR2 hX2 hG2 hZ2;obtain⟨q,xs,v,ts,us,k,hR,hX,hZ,hC,hK,hG,HI⟩:=hrel;have hM:=hidL hR.m;have HR:=hidL hR;obtain⟨uv,hbx,hrw⟩:=hR;obtain⟨A,cap,rfl,-,-⟩:=hrw.form;have c0:LL wr g 0 (.slice A q.l.length cap):=hbx.cell 0;have c1:LL wr g 1 (.bool q.bad):=hbx.cell 1;have hgl:=hbx.lt;have z0:=hZ.cell 0;have f0:=hZ.frozen 0;have zl:=hZ.lt;clear hbx hrw
    by_cases hlen:0<q.l.length
    ·have hlen':(0:Int)<(q.l.length:Int):=by omega
     cases hbad:q.bad with
     | true =>
      have He:Hid (p=([],1)):=by show _=_;rw[Hr.out,HI.out.2.2.2,Qd k us (by rw[hbad];simp),BD,hbad];rfl
      have hZ3:=hZ.gB 0 (Z0);have hG3:=hG.setCell (p:=⟨w.heap.size,0,none⟩) (Nat.le_refl _) (Z0);rw[hbad] at c1;clear hbad;go_wp2_with fail;refine bodyPost_ret (qX hZ3 rfl rfl) rfl ?_;exact⟨_,by rw[He.out],by rw[He.out];exact RSl.dJ,hG3⟩
     | false =>
      have Hbad:=hidL hbad;have Hlen:=hidL hlen;rw[hbad] at c1;clear hbad hlen z0 f0 zl;go_wp2_with fail;refine(ER _ g q wr HR.out (Nat.lt_irrefl g)).mono ?_;rintro e w3 ⟨rfl,h3,hg3⟩;have hX3:=hX.grown hg3 (by intro e;injection e with e;omega);have hZ3:=hZ.grown hg3 (by intro e;injection e with e;omega);have hG3:=below_grown hG hg3 hG.size (fun g' e=>by injection e with e;omega);have hC3:=hC.kept (az.bH hg3 (fun k e hk=>by injection e with e;omega));have hbs:g+2≤w3.heap.size:=by have:=hX3.lt;omega
      obtain⟨x,hx⟩:=exE q.next.1;obtain⟨q1,hq1⟩:=exE q.next.2;rw[←hx];rw[←hq1] at h3;have Hx:=hidL hx;have Hq1:=hidL hq1;clear hx hq1 HR hX hZ hG hC c0 c1 hgl hg3 hlen'
      by_cases hm:x=lH
      case' pos =>
       have em:(x.toList==[109,101,115,115,97,103,101])=true:=by rw[FI x lH [109,101,115,115,97,103,101] rfl];simpa using hm
       have Hstep:=hidL (TE (k:=k) us Hlen.out Hbad.out (by rw[←Hx.out];exact hm) HI.out.1 HI.out.2.1);rw[←Hq1.out] at Hstep;have Hm:=hidL (VX (r:=q1) (by rw[Hq1.out];exact HI.out.1.next.1));clear hm;go_upto_region 12 with fail;clear em;have hRd:=h3.keep (az.drew _ _);have hXd:=hX3.drew;have hZd:=hZ3.drew;have hGd:=au hG3;have hCd:=hC3.kept (az.drew _ _);replace hbs:g+2≤w3.drew.heap.size:=hbs;have hS:(fun W'=>LL W' (g+1) 0 v) w3.drew:=hX3.drew.cell 0;refine aJ (fun W'=>LL W' (g+1) 0 v) (fun i=>i != 7) (by kernel_rfl) ?_;clear h3 hX3 hZ3 hG3 hC3;generalize w3.drew=Wd at hRd hXd hZd hGd hCd hbs hS ⊢;apply ppP 0;apply tkP 1 hS;apply ppP 2
       try simp only[pu]
       refine ang 3 (fun K hK=>?_);go_simp;refine(WS _ g q1 w Wd hRd (Nat.lt_irrefl g) (fun _ h=>Nat.lt_trans h hRd.lt) (by rw[Hq1.out];exact HI.out.1.next.1) HN.out HL.out hGd (by omega)).mono ?_;rintro e w5 ⟨vf,vg,vi,t,rfl,hOf,hrg,hri,hlk,h5,hg5⟩;obtain⟨F,p1,hvf,-⟩:=hOf.form;subst hvf;obtain⟨G,p2,rfl,-,-⟩:=hrg.form;obtain⟨I,p3,rfl,-,-⟩:=hri.form;obtain⟨xc,hxc⟩:=exE (⟨t.name,t.enum,F,t.fields.length,p1,G,t.gone.length,p2,I,t.items.length,p3⟩:fF);have Hrow:Hid (wy Wd.heap.size (fun y=>Wd.heap.size≤y∧xc.fb≠some y) w5 xc t):=(show wy _ _ _ _ _ by rw[hxc];exact⟨rfl,rfl,hOf,hrg,hri⟩);have hX5:=hXd.grown hg5 (by intro e;injection e with e;omega);have hZ5:=hZd.grown hg5 (by intro e;injection e with e;omega);have hG5:=below_grown hGd hg5 hGd.size (fun g' e=>by injection e with e;omega);have hC5:=hCd.kept (az.bH hg5 (fun k e hk=>by injection e with e;omega));have hs5:g+2≤w5.heap.size:=Nat.le_trans hbs hg5.size;replace hS:(fun W'=>LL W' (g+1) 0 v) w5:=hX5.cell 0;clear hXd hZd hGd hRd hOf hrg hri;refine hK.out _ _ (fun _ _=>hS) ?_;clear hK K
       try simp only[pu]
       refine ang 4 (fun K hK=>?_);go_simp;obtain⟨cc,hcc⟩:=exE ((TT t F p1 G p2 I p3):List Value);have hct:pG xc=cc:=by rw[hxc,hcc];rfl
       have hB7:=Box.new w5 53 cc;have h7:=h5.keep (az.alloc _ w5 (.cells cc.toArray 53));have hX7:=hX5.alloc (.cells cc.toArray 53);have hZ7:=hZ5.alloc (.cells cc.toArray 53);have hG7:=hG5.alloc hG5.size (.cells cc.toArray 53);have hA7:=(Below.here w5).alloc (Nat.le_refl _) (.cells cc.toArray 53);have hO7:=hC5.row.alloc bg.fair (.cells cc.toArray 53);have hl7:=hC5.len;have ho7:gI cc:=by rw[hcc];exact gI.bK rfl
       have hn7:cc.length=5:=by rw[hcc];rfl
       rw[hcc] at hB7 h7 hX7 hZ7 hG7 hA7 hO7;replace hS:(fun W'=>LL W' (g+1) 0 v) (w5.alloc (.cells (TT t F p1 G p2 I p3).toArray 53)):=hX7.cell 0;clear hX5 hZ5 hG5 hC5 h5;refine hK.out _ _ (fun _ _=>hS) ?_;clear hK K
       try simp only[pu]
       refine ang 5 (fun K hK=>?_);obtain⟨A7,c7,hv7,-⟩:=hO7.form;refine dM _ rfl (.tmp 50) (.tmp 53) rfl agn bg.fair rfl rfl hO7 (Src.one (es:=(TT t F p1 G p2 I p3)) (y:=xc) rfl (hcc ▸ ho7) (by show _=pG xc;rw[hct,hcc]) hB7.lies) (NoT.lt _) (by have:=HI.out.2.2.1;simp;omega) (Nat.le_trans hs5 hA7.size) ?_;intro v8 w8 hO8 hg8 hv8;obtain⟨A8,c8,hv8',-⟩:=hO8.form;subst hv8';have hC8:=hCd.push hg5 (show g<g+2 by omega) hbs Hrow.out hA7 hO8 hg8 hv8;generalize (xs++[xc]).length=n8 at hC8 ⊢;have h8:=h7.grown hg8 (fun k e=>by have:=(hO7.lt e).1;exact⟨fun (hk:k<g)=>by omega,by omega⟩);have hX8:=hX7.grown hg8 (hX7.gV hO7 (by decide));have hZ8:=hZ7.grown hg8 (hZ7.gV hO7 (by decide));have hG8:=below_grown hG7 hg8 hG7.size (fun k e=>by have:=(hO7.lt e).1;omega);replace hS:(fun W'=>LL W' (g+1) 0 v) w8:=hX8.cell 0;clear hX7 hZ7 hG7 h7 hB7 hO7 hO8 hg8 hv8 hv7 hCd hg5 hA7 Hrow;refine hK.out _ _ (fun _ _=>hS) ?_;clear hK K
       try simp only[pu]
       apply ppP 6
       try simp only[pu]
       obtain⟨er,her⟩:=exE (mZ q1);rw[←her] at h8 Hstep Hm hlk;clear her
      case' neg =>
       have em:(x.toList==[109,101,115,115,97,103,101])=false:=by rw[FI x lH [109,101,115,115,97,103,101] rfl];simpa using hm
       by_cases hm2:x=yu
       case' pos =>
        have em2:(x.toList==[101,110,117,109])=true:=by rw[FI x yu [101,110,117,109] rfl];simpa using hm2
        have Hstep:=hidL (ach (k:=k) us Hlen.out Hbad.out (by rw[←Hx.out];exact hm) (by rw[←Hx.out];exact hm2) HI.out.1 HI.out.2.1);rw[←Hq1.out] at Hstep;have Hm:=hidL (aiO (r:=q1) (by rw[Hq1.out];exact HI.out.1.next.1));clear hm hm2;go_upto_region 14 with fail;clear em em2;have hRd:=h3.keep (az.drew _ _);have hXd:=hX3.drew;have hZd:=hZ3.drew;have hGd:=au hG3;have hCd:=hC3.kept (az.drew _ _);replace hbs:g+2≤w3.drew.heap.size:=hbs;have hS:(fun W'=>LL W' (g+1) 0 v) w3.drew:=hX3.drew.cell 0;refine aJ (fun W'=>LL W' (g+1) 0 v) (fun i=>i != 7) (by kernel_rfl) ?_;clear h3 hX3 hZ3 hG3 hC3;generalize w3.drew=Wd at hRd hXd hZd hGd hCd hbs hS ⊢;apply ppP 0;apply tkP 1 hS;apply ppP 2
        try simp only[pu]
        refine ang 3 (fun K hK=>?_);go_simp;refine(aht _ g q1 w Wd hRd (Nat.lt_irrefl g) (fun _ h=>Nat.lt_trans h hRd.lt) (by rw[Hq1.out];exact HI.out.1.next.1) HN.out hGd (by omega)).mono ?_;rintro e w5 ⟨vf,vg,vi,t,rfl,hOf,hrg,hri,hlk,h5,hg5⟩;obtain⟨F,p1,hvf,-⟩:=hOf.form;subst hvf;obtain⟨G,p2,rfl,-,-⟩:=hrg.form;obtain⟨I,p3,rfl,-,-⟩:=hri.form;obtain⟨xc,hxc⟩:=exE (⟨t.name,t.enum,F,t.fields.length,p1,G,t.gone.length,p2,I,t.items.length,p3⟩:fF);have Hrow:Hid (wy Wd.heap.size (fun y=>Wd.heap.size≤y∧xc.fb≠some y) w5 xc t):=(show wy _ _ _ _ _ by rw[hxc];exact⟨rfl,rfl,hOf,hrg,hri⟩);have hX5:=hXd.grown hg5 (by intro e;injection e with e;omega);have hZ5:=hZd.grown hg5 (by intro e;injection e with e;omega);have hG5:=below_grown hGd hg5 hGd.size (fun g' e=>by injection e with e;omega);have hC5:=hCd.kept (az.bH hg5 (fun k e hk=>by injection e with e;omega));have hs5:g+2≤w5.heap.size:=Nat.le_trans hbs hg5.size;replace hS:(fun W'=>LL W' (g+1) 0 v) w5:=hX5.cell 0;clear hXd hZd hGd hRd hOf hrg hri;refine hK.out _ _ (fun _ _=>hS) ?_;clear hK K
        try simp only[pu]
        refine ang 4 (fun K hK=>?_);go_simp;obtain⟨cc,hcc⟩:=exE ((TT t F p1 G p2 I p3):List Value);have hct:pG xc=cc:=by rw[hxc,hcc];rfl
        have hB7:=Box.new w5 53 cc;have h7:=h5.keep (az.alloc _ w5 (.cells cc.toArray 53));have hX7:=hX5.alloc (.cells cc.toArray 53);have hZ7:=hZ5.alloc (.cells cc.toArray 53);have hG7:=hG5.alloc hG5.size (.cells cc.toArray 53);have hA7:=(Below.here w5).alloc (Nat.le_refl _) (.cells cc.toArray 53);have hO7:=hC5.row.alloc bg.fair (.cells cc.toArray 53);have hl7:=hC5.len;have ho7:gI cc:=by rw[hcc];exact gI.bK rfl
        have hn7:cc.length=5:=by rw[hcc];rfl
        rw[hcc] at hB7 h7 hX7 hZ7 hG7 hA7 hO7;replace hS:(fun W'=>LL W' (g+1) 0 v) (w5.alloc (.cells (TT t F p1 G p2 I p3).toArray 53)):=hX7.cell 0;clear hX5 hZ5 hG5 hC5 h5;refine hK.out _ _ (fun _ _=>hS) ?_;clear hK K
        try simp only[pu]
        refine ang 5 (fun K hK=>?_);obtain⟨A7,c7,hv7,-⟩:=hO7.form;refine dM _ rfl (.tmp 59) (.tmp 62) rfl agn bg.fair rfl rfl hO7 (Src.one (es:=(TT t F p1 G p2 I p3)) (y:=xc) rfl (hcc ▸ ho7) (by show _=pG xc;rw[hct,hcc]) hB7.lies) (NoT.lt _) (by have:=HI.out.2.2.1;simp;omega) (Nat.le_trans hs5 hA7.size) ?_;intro v8 w8 hO8 hg8 hv8;obtain⟨A8,c8,hv8',-⟩:=hO8.form;subst hv8';have hC8:=hCd.push hg5 (show g<g+2 by omega) hbs Hrow.out hA7 hO8 hg8 hv8;generalize (xs++[xc]).length=n8 at hC8 ⊢;have h8:=h7.grown hg8 (fun k e=>by have:=(hO7.lt e).1;exact⟨fun (hk:k<g)=>by omega,by omega⟩);have hX8:=hX7.grown hg8 (hX7.gV hO7 (by decide));have hZ8:=hZ7.grown hg8 (hZ7.gV hO7 (by decide));have hG8:=below_grown hG7 hg8 hG7.size (fun k e=>by have:=(hO7.lt e).1;omega);replace hS:(fun W'=>LL W' (g+1) 0 v) w8:=hX8.cell 0;clear hX7 hZ7 hG7 h7 hB7 hO7 hO8 hg8 hv8 hv7 hCd hg5 hA7 Hrow;refine hK.out _ _ (fun _ _=>hS) ?_;clear hK K
        try simp only[pu]
        apply ppP 6
        try simp only[pu]
        obtain⟨er,her⟩:=exE (vS q1);rw[←her] at h8 Hstep Hm hlk;clear her
       case' neg =>
        have em2:(x.toList==[101,110,117,109])=false:=by rw[FI x yu [101,110,117,109] rfl];simpa using hm2
        have Hstep:=hidL (ahm (k:=k) us Hlen.out Hbad.out (by rw[←Hx.out];exact hm) (by rw[←Hx.out];exact hm2) HI.out.2.1);rw[←Hq1.out] at Hstep;clear hm hm2;have hRb:=h3.gB (Nat.lt_irrefl g) true;have hXb:=hX3.far (p:=⟨g,1,none⟩) (show g+1≠g by omega) (.bool true);have hZb:=hZ3.far (p:=⟨g,1,none⟩) (show w.heap.size≠g by omega) (.bool true);have hGb:=hG3.setCell (p:=⟨g,1,none⟩) (show w.heap.size≤g by omega) (.bool true);have hCb:=hC3.kept (az.setCell w3 (a:=⟨g,1,none⟩) (.bool true) (show ¬ g+2≤g by omega));have Hmb:=hidL hRb.m;have HRb:=hidL hRb;obtain⟨uv3,hbx3,-⟩:=h3;have c13:LL w3 g 1 (.bool q1.bad):=hbx3.cell 1;have f13:=hbx3.frozen 1;have gl3:=hbx3.lt;clear hbx3 hX3 hZ3 hG3 hC3 hRb;go_wp2_with fail;generalize (World.setCell w3 _ _)=w4 at hXb hZb hGb hCb Hmb HRb ⊢;refine⟨?_,?measure⟩
        (repeat apply Exists.intro)
        refine⟨?rel,rfl⟩
        case rel =>
         obtain⟨i1,i2,i3,i4⟩:=HI.out;refine⟨⟨q1.l,true⟩,xs,v,ts,us,0,HRb.out,hXb,hZb,hCb,hK,hGb,(show _∧_ from⟨(show Small q1 by rw[Hq1.out];exact i1.next.1).told true,Nat.le_refl _,by show _+0≤_;omega,by rw[i4,Hstep.out]⟩)⟩
        case measure =>
         show Ll w4 g<Ll wr g;rw[Hmb.out,hM.out];have:=sW Hbad.out;show 0<rdM q;omega
      all_goals
       have f8:=hX8.frozen 0;have c8':=hX8.cell 0;have lX:=hX8.lt;have h9:=h8.keep (az.setCell w8 (a:=⟨g+1,0,none⟩) (Value.slice A8 n8 c8) (show ¬ (g+1<g∨g+1=g) by omega));have hC9:=hC8.kept (az.setCell w8 (a:=⟨g+1,0,none⟩) (Value.slice A8 n8 c8) (show ¬ g+2≤g+1 by omega));have hX9:=hX8.gB 0 (Value.slice A8 n8 c8);have hZ9:=hZ8.far (p:=⟨g+1,0,none⟩) (show w.heap.size≠g+1 by omega) (Value.slice A8 n8 c8);have hG9:=hG8.setCell (p:=⟨g+1,0,none⟩) (show w.heap.size≤g+1 by omega) (Value.slice A8 n8 c8);clear h8 hC8 hX8 hZ8 hG8;refine ang 7 (fun K hK=>?_);go_simp;refine hK.out _ _ nay ?_;clear hK K
       try simp only[pu]
       refine anf ?_ _;clear hS f8 c8' lX;generalize (World.setCell w8 _ _)=w9 at h9 hC9 hX9 hZ9 hG9 ⊢;have H9:=hidL h9.m;go_wp2_with fail;refine⟨?_,?measure⟩
       (repeat apply Exists.intro)
       refine⟨?rel,rfl⟩
       case rel =>
        obtain⟨i1,i2,i3,i4⟩:=HI.out;obtain⟨k',hk1,hk2⟩:=Hstep.out;have hm:=sW Hbad.out;rw[←Hq1.out] at hm;have hm2:=Hm.out.2;refine⟨(er).2,xs++[xc],Value.slice A8 n8 c8,ts++[t],us++[(er).1],k',h9,hX9,hZ9,hC9,hK.append (.cons hlk .nil),hG9,(show _∧_ from⟨Hm.out.1,hk1,by rw[List.length_append];show _+1+_≤_;omega,by rw[i4,hk2]⟩)⟩
       case measure =>
        show Ll w9 g<Ll wr g;rw[H9.out,hM.out];have hm:=sW Hbad.out;rw[←Hq1.out] at hm;have hm2:=Hm.out.2;omega
    ·have hlen':¬ (0:Int)<(q.l.length:Int):=by omega
     have Hst:Hid (jh k q us=(us,q)):=by show _=_;exact Qd k us (fun h=>hlen h.1)
     clear hlen;cases hbad:q.bad with
     | true =>
      have He:Hid (p=([],1)):=by show _=_;rw[Hr.out,HI.out.2.2.2,Hst.out,BD,hbad];rfl
      have hZ3:=hZ.gB 0 (Z0);have hG3:=hG.setCell (p:=⟨w.heap.size,0,none⟩) (Nat.le_refl _) (Z0);rw[hbad] at c1;clear hbad;go_wp2_with fail;refine bodyPost_ret (qX hZ3 rfl rfl) rfl ?_;exact⟨_,by rw[He.out],by rw[He.out];exact RSl.dJ,hG3⟩
     | false =>
      rw[hbad] at c1;have Hbad:=hidL hbad;clear hbad;have Hus:Hid (p=BD (us,q)):=by show _=_;rw[Hr.out,HI.out.2.2.2,Hst.out]
      have hlen5:ts.length≤4001:=by have:=HI.out.2.2.1;omega
      have hO:=hC.row;have hl1:=hC.len;have x0:=hX.cell 0;have xl:=hX.lt;go_wp2_with fail;refine(yL (L:=xs) _ _ v xs wr hO (by omega) (List.Perm.refl _)).mono ?_;rintro e w3 ⟨rfl,ys,hyl,hyp,hO3,hg3,hys⟩;obtain⟨ts',hC3,hl',hmem,hsrt⟩:=hC.sorted hO3 hyp hg3 hys;have hX3:=hX.grown hg3 (by intro e;have:=(hO.lt e).1;omega);have hZ3:=hZ.grown hg3 (by intro e;have:=(hO.lt e).1;omega);have hG3:=below_grown hG hg3 hG.size (fun k e=>by have:=(hO.lt e).1;omega);have Hshort:Hid (∀ t∈ts',Xa t):=(show ∀ t∈ts',Xa t from fun t ht=>by
       obtain⟨u,_,hu⟩:=hK.left t (hmem t ht);exact hu.2.2.2.2.2.2.2)
      have Hlike:Hid (us.length<20→nz SG ts' (bL kH us)):=(show _→_ from fun h=>by
       rw[hsrt (by rw[hK.len];exact h)];exact UR aks hK)
      have Hgood:=hidL (WU (b:=ts') (u:=us) (by rw[hl',hK.len]) Hlike.out);obtain⟨Av,cv,hv,hcv⟩:=hO3.form;subst hv;have hl3:=hC3.len;have hl9:ts'.length≤4001:=by omega
      have HLEN:=hidL (show ys.length=ts'.length∧ts'.length≤4001 from⟨hl3,hl9⟩);have x3:=hX3.cell 0;have xl3:=hX3.lt;clear hyl hl1 hl3 hl9 hl' hlen5 x0 xl hO hC hX hZ hG c0 c1 z0 f0 zl hgl hg3 hO3 hyp hys hmem hsrt HR hM Hst HI hK hlen';go_wp2_with fail;go_loopw [76] (fun i wr'=>∃ n:Nat,i=O n∧n≤ys.length∧Box wr' (g+1) 38 [.slice Av ys.length cv]∧Box wr' w.heap.size 38 [Z0]∧jy (g+2) wr' (.slice Av ys.length cv) ys (part (qN (tK ts')) ts' n)∧Below w.heap.size w wr') (fun i _=>ys.length-(intOf i).toNat)
      case atStart=>exact⟨0,rfl,Nat.zero_le _,hX3,hZ3,by rw[LU];exact hC3,hG3⟩
      case round =>
       clear hX3 hZ3 hC3 hG3 x3 xl3;obtain⟨n,rfl,hn,hX,hZ,hC,hG⟩:=hrel
       by_cases hlt:n<ys.length
       ·--[FIX
        have hn':n<ts'.length:=by have:=HLEN.out;omega
        obtain⟨gv,c',hv',-,hgvl,hly⟩:=hC.lies hlt;injection hv' with hv1 hv2 hv3
        subst hv1 hv3;obtain⟨E,hE⟩:=exE (tK ts');rw[←hE] at hC ⊢;obtain⟨t0,ht0⟩:=exE (ts'[n]);have hpn:(part (qN E) ts' n).set n (fO t0 (part (pz E) t0.fields 0))=part (qN E) ts' n:=by
         rw[LU,acS,ht0,←OP (qN E) ts' hn',List.set_getElem_self]
        rw[←hpn] at hC;have hfl:=hC.anr hlt (by rw[List.length_set,vK];exact hn');have hfl2:ys[n].f=t0.fields.length:=by rw[hfl,List.getElem_set_self,LU];rfl
        have q2:wr.cell? ⟨gv,n*5+2,none⟩=some (.slice ys[n].F t0.fields.length ys[n].p):=by rw[←hfl2];exact hly.at_ 2 rfl
        have x0:=hX.cell 0;have xl:=hX.lt;have HE:=hidL hE;have Ht0:=hidL ht0;have hfz:t0.fields.length≤5000:=by rw[ht0];exact(Hshort.out _ (List.getElem_mem hn')).2.1
        have e1:IntKind.i64.wrap ((n:Int)+1)=(n:Int)+1:=IntWalk.i64_in _ (by have:=HLEN.out;omega);have hlt':(n:Int)<(ys.length:Int):=by omega
        have hnz:(0:Int)≤(n:Int):=by omega
        obtain⟨yF,hyF⟩:=exE (ys[n].F);obtain⟨yp,hyp⟩:=exE (ys[n].p);rw[←hyF,←hyp] at q2;have HyF:=hidL hyF;have Hyp:=hidL hyp;clear hE ht0 hpn hfl hly hyF hyp;go_wp2_with fail;go_loopw [86] (fun i wi=>∃ k:Nat,i=O k∧k≤t0.fields.length∧Box wi (g+1) 38 [.slice (some ⟨gv,0,none⟩) ys.length cv]∧Box wi w.heap.size 38 [Z0]∧jy (g+2) wi (.slice (some ⟨gv,0,none⟩) ys.length cv) ys ((part (qN E) ts' n).set n (fO t0 (part (pz E) t0.fields k)))∧Below w.heap.size w wi) (fun i _=>t0.fields.length-(intOf i).toNat)
        case atStart=>exact⟨0,rfl,Nat.zero_le _,hX,hZ,hC,hG⟩
        case round =>
         clear hX hZ hC hG x0 xl q2 hgvl;obtain⟨k,rfl,hk,hX,hZ,hC,hG⟩:=hrel
         by_cases hkl:k<t0.fields.length
         ·--[FLD
          have hkL:k<(part (pz E) t0.fields k).length:=by rw[vK];exact hkl
          have hLk:=OP (pz E) t0.fields hkl;obtain⟨L,hL⟩:=exE (part (pz E) t0.fields k);have hLl:L.length=t0.fields.length:=by rw[hL,vK]
          have hkL':k<L.length:=by omega
          have hLk':L[k]=t0.fields[k]:=by subst hL;exact hLk
          obtain⟨f,hf⟩:=exE (t0.fields[k]);rw[←hL] at hC;rw[←hf] at hLk';obtain⟨gF,hgF,hgFl,hgFb,hfy,-,hfc,hff⟩:=hC.ace hlt hkL';have hyF':yF=some ⟨gF,0,none⟩:=by rw[HyF.out];exact hgF
          subst hyF';obtain⟨gv2,c2,hv2,-,hgvl,hly⟩:=hC.lies hlt;injection hv2 with hw1 hw2 hw3
          injection hw1 with hw1
          injection hw1 with hw1
          subst hw1 hw3;have q2:wr.cell? ⟨gv,n*5+2,none⟩=some (.slice (some ⟨gF,0,none⟩) t0.fields.length yp):=by rw[Hyp.out,←hLl,←hfy,←hgF];exact hly.at_ 2 rfl
          have q3:LL wr gF (k*5+3) (O f.kind):=by have:=hfc.at_ 3 rfl;rw[hLk'] at this;exact this
          have x0:=hX.cell 0;have xl:=hX.lt;have e2:IntKind.i64.wrap ((k:Int)+1)=(k:Int)+1:=IntWalk.i64_in _ (by omega);have hkl':(k:Int)<(t0.fields.length:Int):=by omega
          have hkz:(0:Int)≤(k:Int):=by omega
          have ff3:=hff (k*5+3);have HC:=hidL hC;have HL:=hidL hL;have Hf:=hidL hf;have HLk:=hidL hLk';have HgF:=hidL hgF;clear hly hfc hff hC hL hf hLk hLk' hgF hkL hfy hw2 hv2
          by_cases hk0:f.kind=0
          ·--[KIND
           have hC2:=HC.out.alx hlt hkL' HgF.out 5;rw[HLk.out] at hC2;obtain⟨L5,hL5⟩:∃ L5,L5=L.set k { f with kind:=5 }:=⟨_,rfl⟩;rw[←hL5] at hC2;have hX2:=hX.far (p:=⟨gF,k*5+3,none⟩) (show g+1≠gF by omega) (O 5);have hZ2:=hZ.far (p:=⟨gF,k*5+3,none⟩) (show w.heap.size≠gF by omega) (O 5);have hG2:=hG.setCell (p:=⟨gF,k*5+3,none⟩) (show w.heap.size≤gF by omega) (O 5);rw[hk0] at q3;have Hk0:=hidL hk0;clear hX hZ hG hk0;go_upto_region 27 with fail;clear q2 q3 ff3 x0 xl hgFl hgvl;generalize (World.setCell wr _ _)=w2 at hC2 hX2 hZ2 hG2 ⊢;have hl5:L5.length=t0.fields.length:=by rw[hL5,List.length_set];exact hLl
           have hk5:k<L5.length:=by omega
           have hf5:L5[k] = { f with kind:=5 }:=by subst hL5;exact List.getElem_set_self hk5
           have hS:(fun W'=>LL W' (g+1) 0 (.slice (some ⟨gv,0,none⟩) ys.length cv)∧LL W' gF (k*5+2) (.string f.type)) w2.drew:=by
            refine⟨hX2.drew.cell 0,?_⟩;obtain⟨gF',hgF',-,-,-,-,hfc,-⟩:=hC2.ace hlt hk5;have:=HgF.out.symm.trans hgF';injection this with this
            injection this with this
            subst this;rw[hf5] at hfc;exact hfc.at_ 2 rfl
           have hbk:=(hC2.kept (az.drew _ _)).book (by rw[List.length_set,vK];have:=HLEN.out;omega) (QM Hshort.out (by omega));have hfd:=hidL (gH _ _ _ f.type _ hbk);have Hoe:Hid (E f.type=((aM ((part (qN E) ts' n).set n (fO t0 L5)) f.type).isSome&&((aM ((part (qN E) ts' n).set n (fO t0 L5)) f.type).getD .zero).enum)):=by
            show _=_;have:=age hn' L5 f.type;rw[←Ht0.out,←HE.out] at this;exact this.symm
           obtain⟨rt,hrt0⟩:=exE (aM ((part (qN E) ts' n).set n (fO t0 L5)) f.type);rw[←hrt0] at hfd Hoe;have Hrt:Hid (aM ((part (qN E) ts' n).set n (fO t0 L5)) f.type=rt):=hrt0.symm;clear hrt0;obtain⟨tt,htt⟩:=exE (rt.getD .zero);obtain⟨ok,hok⟩:=exE rt.isSome;rw[←htt,←hok] at Hoe;have Hok:=hidL hok;have Htt:=hidL htt;have hXd:=hX2.drew;have hZd:=hZ2.drew;have hGd:=au hG2;have HCd:=hidL (hC2.kept (az.drew _ w2));have HL5:=hidL hL5;have Hf5:=hidL hf5;refine aJ (fun W'=>LL W' (g+1) 0 (.slice (some ⟨gv,0,none⟩) ys.length cv)∧LL W' gF (k*5+2) (.string f.type)) (fun i=>i != 10&&i != 11) (by kernel_rfl) ?_;clear hX2 hZ2 hG2 hC2 hbk hok htt hL5 hf5;generalize w2.drew=Wd at hXd hZd hGd HCd hfd hS ⊢;apply tkP 0 hS;apply ppP 1;apply ppP 2;apply ppP 3;apply tkP 4 hS
           try simp only[pu]
           have hgS:g+2≤Wd.heap.size:=by have:=hXd.lt;omega
           have hBd:=Below.here Wd;refine iI (i:=5) (j:=9) rfl rfl (by kernel_rfl) (fun K hK=>?zf) (fun K hK=>?zs)
           case' zf =>
            go_simp;refine hfd.out.mono ?_;rintro e w5 ⟨cs,rfl,hrt,hb5⟩;rw[←Hok.out];rw[←Htt.out] at hrt;obtain⟨A1,k1,A2,k2,A3,k3,rfl,-,-,-⟩:=hrt.parts;have hB5:=hb5;replace hS:(fun W'=>LL W' (g+1) 0 (.slice (some ⟨gv,0,none⟩) ys.length cv)∧LL W' gF (k*5+2) (.string f.type)) w5:=⟨(hXd.below hb5 hXd.lt).cell 0,(World.cell?_of_block (a:=⟨gF,k*5+2,none⟩) (hb5.block gF (World.block_lt_of_cell? _ _ hS.2))).trans hS.2⟩;clear hb5 hrt hBd;refine hK.out _ _ (fun _ _=>hS) ?_;clear hK K
            try simp only[pu]
            apply ppP 6;apply ppP 7;apply ppP 8
            try simp only[pu]
            refine ang 9 (fun K hK=>?_);go_simp;have hY:=Box.new w5 53 [E0,.bool false,Z0,Z0,Z0];have hB6:=hB5.alloc hB5.size (.cells [E0,.bool false,Z0,Z0,Z0].toArray 53);have hYd:=hB5.size;replace hS:(fun W'=>LL W' (g+1) 0 (.slice (some ⟨gv,0,none⟩) ys.length cv)∧LL W' gF (k*5+2) (.string f.type)) (w5.alloc (.cells [E0,.bool false,Z0,Z0,Z0].toArray 53)):=⟨(hXd.below hB6 hXd.lt).cell 0,(World.cell?_of_block (a:=⟨gF,k*5+2,none⟩) (Below.heap_alloc w5 _ gF (World.block_lt_of_cell? _ _ hS.2))).trans hS.2⟩;clear hB5;refine hK.out _ _ (fun _ _=>hS) ?_;clear hK K
            try simp only[pu]
            generalize w5.heap.size=Y at hY hYd ⊢;generalize (World.alloc w5 _)=w6 at hY hB6 hS ⊢
           case' zs =>
            go_simp;have hY:=Box.new Wd 53 [E0,.bool false,Z0,Z0,Z0];have hB5:=hBd.alloc hBd.size (.cells [E0,.bool false,Z0,Z0,Z0].toArray 53);have hYd:=Nat.le_refl Wd.heap.size;have hfd2:=hidL (gH _ _ _ f.type _ ((HCd.out.kept (az.of_below hB5)).book (by rw[List.length_set,vK];have:=HLEN.out;omega) (QM Hshort.out (by omega))));rw[Hrt.out] at hfd2;replace hS:(fun W'=>LL W' (g+1) 0 (.slice (some ⟨gv,0,none⟩) ys.length cv)∧LL W' gF (k*5+2) (.string f.type)) (Wd.alloc (.cells [E0,.bool false,Z0,Z0,Z0].toArray 53)):=⟨(hXd.below hB5 hXd.lt).cell 0,(World.cell?_of_block (a:=⟨gF,k*5+2,none⟩) (Below.heap_alloc Wd _ gF (World.block_lt_of_cell? _ _ hS.2))).trans hS.2⟩;clear hBd;refine hK.out _ _ (fun _ _=>hS) ?_;clear hK K
            try simp only[pu]
            obtain⟨Y,hYe⟩:=exE Wd.heap.size;rw[←hYe] at hY ⊢;replace hYd:Wd.heap.size≤Y:=Nat.le_of_eq hYe.symm;clear hYe;generalize (World.alloc Wd _)=w4 at hY hB5 hS hfd2 ⊢;refine ang 5 (fun K hK=>?_);go_simp;refine hfd2.out.mono ?_;rintro e w6 ⟨cs,rfl,hrt,hb6⟩;rw[←Hok.out];rw[←Htt.out] at hrt;obtain⟨A1,k1,A2,k2,A3,k3,rfl,-,-,-⟩:=hrt.parts;replace hY:=hY.below hb6 hY.lt;have hB6:=aa hB5 hb6 hB5.size;replace hS:(fun W'=>LL W' (g+1) 0 (.slice (some ⟨gv,0,none⟩) ys.length cv)∧LL W' gF (k*5+2) (.string f.type)) w6:=⟨(hXd.below hB6 hXd.lt).cell 0,(World.cell?_of_block (a:=⟨gF,k*5+2,none⟩) (hb6.block gF (World.block_lt_of_cell? _ _ hS.2))).trans hS.2⟩;clear hb6 hrt hB5;refine hK.out _ _ (fun _ _=>hS) ?_;clear hK K
            try simp only[pu]
            apply ppP 6;apply ppP 7;apply ppP 8
            try simp only[pu]
           all_goals
            obtain⟨c0,c1,c2,c3,c4,f0,f1,f2,f3,f4,ly⟩:=(hY).rr5;have hB7:=below_setCells hYd (TT tt A1 k1 A2 k2 A3 k3) 0 _ hB6;have hY7:=hY.setCells (TT tt A1 k1 A2 k2 A3 k3) rfl;refine ang 10 (fun K hK=>?_);go_simp;refine hK.out _ _ nay ?_;clear hK K
            try simp only[pu]
            change fK _ _ _ _ _ _ _ _ _ (Go.Proofs.YtknnhpkjgnkcdaaGreatDoor.setCells w6 Y 0 (TT tt A1 k1 A2 k2 A3 k3));clear c0 c1 c2 c3 c4 f0 f1 f2 f3 f4 ly hB6 hY hS;generalize (Go.Proofs.YtknnhpkjgnkcdaaGreatDoor.setCells w6 Y 0 _)=w7 at hB7 hY7 ⊢;refine ang 11 (fun K hK=>?_);go_simp;refine hK.out _ _ nay ?_;clear hK K
            try simp only[pu]
            refine anf ?_ _;have hX7:=hXd.below hB7 hXd.lt;have hZ7:=hZd.below hB7 hZd.lt;have hG7:=aa hGd hB7 hGd.size;have hC7:=HCd.out.kept (az.of_below hB7);have y1:LL w7 Y 1 (.bool tt.enum):=hY7.cell 1;have yl:=hY7.lt;obtain⟨gF',hgF',hgl7,-,-,-,hfc,hff⟩:=hC7.ace hlt hk5;have ege:=HgF.out.symm.trans hgF';injection ege with ege
            injection ege with ege
            subst ege;have q7:LL w7 gF (k*5+3) (O 5):=by have:=hfc.at_ 3 rfl;rw[Hf5.out] at this;exact this
            have ff7:=hff (k*5+3);have HC7:=hidL hC7;obtain⟨ten,hten⟩:=exE tt.enum;rw[←hten] at y1 Hoe ⊢;clear hY7 hfc hff hgF' hC7 hXd hZd hGd hB7 hten;cases ok with
            | false =>
             have hdone:part (pz E) t0.fields (k+1)=L5:=by
              rw[HL5.out,←Fb (pz E) t0.fields hkl,←HL.out,←Hf.out]
              congr 1
              unfold pz;rw[if_pos Hk0.out,if_neg (by rw[show E f.type=false from by rw[Hoe.out];rfl];simp)]
             have HC8:Hid (jy (g+2) w7 (.slice (some ⟨gv,0,none⟩) ys.length cv) ys ((part (qN E) ts' n).set n (fO t0 (part (pz E) t0.fields (k+1))))):=by show jy _ _ _ _ _;rw[hdone];exact HC7.out
             clear hdone;go_wp2;go_roundw
             case rel=>exact⟨k+1,by simp,by omega,hX7,hZ7,HC8.out,hG7⟩
             case measure=>go_light;simp[intOf];omega
            | true =>
             cases ten with
             | false =>
              have hdone:part (pz E) t0.fields (k+1)=L5:=by
               rw[HL5.out,←Fb (pz E) t0.fields hkl,←HL.out,←Hf.out]
               congr 1
               unfold pz;rw[if_pos Hk0.out,if_neg (by rw[show E f.type=false from by rw[Hoe.out];rfl];simp)]
              have HC8:Hid (jy (g+2) w7 (.slice (some ⟨gv,0,none⟩) ys.length cv) ys ((part (qN E) ts' n).set n (fO t0 (part (pz E) t0.fields (k+1))))):=by show jy _ _ _ _ _;rw[hdone];exact HC7.out
              clear hdone;go_wp2;go_roundw
              case rel=>exact⟨k+1,by simp,by omega,hX7,hZ7,HC8.out,hG7⟩
              case measure=>go_light;simp[intOf];omega
             | true =>
              have hX8:=hX7.far (p:=⟨gF,k*5+3,none⟩) (show g+1≠gF by omega) (O 4);have hZ8:=hZ7.far (p:=⟨gF,k*5+3,none⟩) (show w.heap.size≠gF by omega) (O 4);have hG8:=hG7.setCell (p:=⟨gF,k*5+3,none⟩) (show w.heap.size≤gF by omega) (O 4);have hC8:=HC7.out.alx hlt hk5 HgF.out 4;rw[Hf5.out] at hC8;have hdone:part (pz E) t0.fields (k+1)=L5.set k { ({ f with kind:=5 }:ay) with kind:=4 }:=by
               rw[HL5.out,List.set_set,←Fb (pz E) t0.fields hkl,←HL.out,←Hf.out]
               congr 1
               unfold pz;rw[if_pos Hk0.out,Hoe.out];rfl
              have HC8:Hid (jy (g+2) (w7.setCell ⟨gF,k*5+3,none⟩ (O 4)) (.slice (some ⟨gv,0,none⟩) ys.length cv) ys ((part (qN E) ts' n).set n (fO t0 (part (pz E) t0.fields (k+1))))):=by show jy _ _ _ _ _;rw[hdone];exact hC8
              clear hC8 hdone hX7 hZ7 hG7;go_wp2;go_roundw
              case rel=>exact⟨k+1,by simp,by omega,hX8,hZ8,HC8.out,hG8⟩
              case measure=>go_light;simp[intOf];omega
          ·--[KEEP
           have hsame:part (pz E) t0.fields (k+1)=L:=by rw[HL.out];exact ahj _ _ hkl (by rw[←Hf.out];unfold pz;rw[if_neg hk0])
           have HS:=hidL hsame;clear hsame;go_wp2;go_roundw
           case rel=>exact⟨k+1,by simp,by omega,hX,hZ,by rw[HS.out];exact HC.out,hG⟩
           case measure=>go_light;simp[intOf];omega
         ·--[FEND
          obtain rfl:k=t0.fields.length:=by omega
          have hC2:jy (g+2) wr (.slice (some ⟨gv,0,none⟩) ys.length cv) ys (part (qN E) ts' (n+1)):=by
           rw[Zg _ _ (Nat.le_refl _)] at hC;rw[←Fb (qN E) ts' hn',←Ht0.out];exact hC
          clear hC;go_wp2;go_roundw
          case rel=>exact⟨n+1,by simp,by omega,hX,hZ,hC2,hG⟩
          case measure=>go_light;simp[intOf];omega
       ·--[GOOD
        obtain rfl:n=ys.length:=by omega
        rw[Zg _ _ (by have:=HLEN.out;omega),←Fj] at hC;have hbk:=hC.book (by rw[Bp];have:=HLEN.out;omega) (fun t ht=>by
         rw[Fj] at ht;obtain⟨u,hu,rfl⟩:=List.mem_map.1 ht;show (u.fields.map _).length≤5000;rw[List.length_map];exact(Hshort.out u hu).2.1)
        have hbo:aS (rJ ts'):=by
         intro t ht;rw[Fj] at ht;obtain⟨u,hu,rfl⟩:=List.mem_map.1 ht;obtain⟨h1,-,h2,h3⟩:=Hshort.out u hu;refine⟨by show u.name.size≤_;omega,fun f hf=>?_,fun x hx=>by show x.name.size≤_;have:=h3 x hx;omega⟩;obtain⟨f',hf',rfl⟩:=List.mem_map.1 hf;have:=h2 f' hf';have e1:(pz (tK ts') f').name=f'.name:=by unfold pz;split <;> rfl
         have e2:(pz (tK ts') f').type=f'.type:=by unfold pz;split <;> rfl
         unfold gQ;rw[e1,e2];omega
        have hgd:=hidL (kS _ _ (rJ ts') wr hbk (HW.out.below hG) hbo);have HB:=hidL hbk;have hlw:=hC.row;obtain⟨ge,hge⟩:=exE (aB (rJ ts'));rw[←hge] at hgd;have x0:=hX.cell 0;have xl:=hX.lt;clear hC hbk hbo hlw hn hlt;go_wp2_with fail;refine hgd.out.mono ?_;rintro e w5 ⟨rfl,hb5⟩;have hX5:=hX.below hb5 hX.lt;have hZ5:=hZ.below hb5 hZ.lt;have hG5:=aa hG hb5 hG.size;have HB5:=hidL ((RSl.fair ah.fair).below HB.out hb5);have x5:=hX5.cell 0;have xl5:=hX5.lt;have z5:=hZ5.cell 0;have zf5:=hZ5.frozen 0;have zl5:=hZ5.lt;have Hge:=hidL hge;clear x0 xl hX hZ hG hb5 hge
        by_cases hg0:ge=0
        ·have Hg0:=hidL hg0;have He:Hid (p=(rJ ts',0)):=by
          show _=_;have h1:aB (rJ (bL kH us))=0:=by rw[←Hgood.out.1,←Hge.out,Hg0.out]
          rw[Hus.out,BD,Hbad.out,Hgood.out.2 h1,if_neg (by simp),if_neg (by rw[h1];simp)]
         have hZ6:=hZ5.gB 0 (.slice Av ys.length cv);have hG6:=hG5.setCell (p:=⟨w.heap.size,0,none⟩) (Nat.le_refl _) (.slice Av ys.length cv);have HB6:=hidL ((RSl.fair ah.fair).keep HB5.out (az.setCell w5 (a:=⟨w.heap.size,0,none⟩) (.slice Av ys.length cv) (show ¬ g+2≤w.heap.size by omega)));subst hg0;clear hX5 hZ5 hG5;go_wp2_with fail;refine bodyPost_ret (qX hZ6 rfl rfl) rfl ?_;exact⟨_,by rw[He.out],by rw[He.out];exact(RSl.fair ah.fair).mono HB6.out (fun y hy _=>by have:g+2≤y:=hy;omega),hG6⟩
        ·have He:Hid (p=([],ge)):=by
          show _=_;have h1:¬ aB (rJ (bL kH us))=0:=by rw[←Hgood.out.1,←Hge.out];exact hg0
          rw[Hus.out,BD,Hbad.out,if_neg (by simp),if_pos h1,←Hgood.out.1,←Hge.out]
         have hZ6:=hZ5.gB 0 (Z0);have hG6:=hG5.setCell (p:=⟨w.heap.size,0,none⟩) (Nat.le_refl _) (Z0);clear hX5 hZ5 hG5;go_wp2_with fail;refine bodyPost_ret (qX hZ6 rfl rfl) rfl ?_;exact⟨_,by rw[He.out],by rw[He.out];exact RSl.dJ,hG6⟩
end
section
open Go.Proofs.Tryz
theorem JO (s:List UInt8):iZ s=([],7)∨iZ s=([],1)∨∃ q,iZ s=BD q:=by
 by_cases h1:4000<s.length
 ·exact .inl (by rw[iZ,if_pos h1])
 ·cases hs:spl s with
  | none=>exact .inr (.inl (Nf (by omega) hs))
  | some l=>exact .inr (.inr ⟨_,Nb (by omega) hs⟩)
theorem yR {s:List UInt8}(h:(iZ s).2=0):aB (iZ s).1=0:=by
 rcases JO s with e | e | ⟨q,e⟩
 ·rw[e] at h;cases h
 ·rw[e] at h;cases h
 ·rw[e] at h ⊢;unfold BD at h ⊢
  by_cases hb:q.2.bad=true
  ·rw[if_pos hb] at h;cases h
  ·rw[if_neg hb] at h ⊢
   by_cases hg:aB (rJ (bL kH q.1))≠0
   ·rw[if_pos hg] at h;exact absurd h hg
   ·rw[if_neg hg];exact Classical.byContradiction hg
theorem iA {b:av}(hg:aB b=0):aS b:=by
 intro t ht;have hn:∀ u∈b,u.name.size≤12:=by
  intro u hu;obtain⟨i,hi,rfl⟩:=List.getElem_of_mem hu;exact lW ((fJ hg).2.1 i hi).1
 unfold gQ;refine⟨by have:=hn t ht;omega,fun f hf=>?_,fun x hx=>?_⟩
 ·cases he:t.enum with
  | true =>
   have:=(fE hg ht he).2.2.2.1;rw[List.eq_nil_of_length_eq_zero this] at hf;cases hf
  | false =>
   have hfp:=bC (bq hg ht he) hf;have h1:=lW hfp.1;refine⟨by omega,?_⟩
   by_cases h4:f.kind<4
   ·have:=hfp.2.2.2.2.2.2.2.1 h4;omega
   ·have hk:=(hfp.2.2.2.2.2.2.2.2 (by omega)).1;obtain⟨t2,h2⟩:=Option.isSome_iff_exists.1 hk;unfold aM at h2;have hm:=List.mem_of_find?_eq_some h2;have hq:=List.find?_some h2;simp only[decide_eq_true_eq] at hq;rw[←hq];have:=hn t2 hm;omega
 ·cases he:t.enum with
  | true =>
   obtain⟨k,hk,rfl⟩:=List.getElem_of_mem hx;have:=lW ((fE hg ht he).1 k hk).1;omega
  | false =>
   have:=(bq hg ht he).2.1;rw[List.eq_nil_of_length_eq_zero this] at hx;cases hx
end
end Go.Proofs.YtknnhpkjgnkcdaaGreatDoor
