/- Walks and plain laws. -/
import Derived.Test.YtknnhpkjgnkcdaaGreatDoorCompat
import Derived.Test.YtknnhpkjgnkcdaaGreatDoorVdec
set_option linter.all false
set_option maxRecDepth 100000
set_option maxHeartbeats 8000000
namespace Go.Proofs.YtknnhpkjgnkcdaaGreatDoor
section
open Go.Proofs.Tryz
def ClosedAt (w r:av)(l:List bQ)(p:bQ):Prop:=∀ f∈(typeOf w p.w).fields,∀ g,aC (typeOf r p.r) f.id=some g→f.kind=5→g.kind=5→vP l f.type g.type=true
theorem Eg {l m:List bQ}{a b:ByteArray}(h:vP l a b=true):vP (l++m) a b=true:=by
 unfold vP at h ⊢;rw[List.any_append,h];rfl
theorem ClosedAt.mono {w r:av}{l m:List bQ}{p:bQ}(h:ClosedAt w r l p):ClosedAt w r (l++m) p:=fun f hf g hg h5 h6=>Eg (h f hf g hg h5 h6)
theorem Np (i:Nat)(t:ax):∀ (fs:List ay) (l:List bQ),∀ f∈fs,∀ g,aC t f.id=some g→f.kind=5→g.kind=5→vP (fs.foldl (dA i t) l) f.type g.type=true
 | [],_,f,hf,_,_,_,_=>by cases hf
 | f0::fs,l,f,hf,g,hg,h5,h6=>by
  rw[List.foldl_cons];rcases List.mem_cons.1 hf with rfl | hf
  ·obtain⟨m,hm⟩:=xP i t fs (dA i t l f);rw[hm];refine Eg ?_;unfold dA;rw[hg];dsimp only;split
   ·unfold vP;rw[List.any_append];simp
   ·rename_i h
    cases hp:vP l f.type g.type with
    | true=>rfl
    | false=>exact absurd ⟨h5,h6,hp⟩ h
  ·exact Np i t fs _ f hf g hg h5 h6
theorem xS {w r:av}(hw:aB w=0)(hr:aB r=0):∀ (k i:Nat) (l:List bQ),ic w r l→17<i+k→(∀ j (_:j<i) (h:j<l.length),ClosedAt w r l l[j])→∀ p∈jF w r k i l,ClosedAt w r (jF w r k i l) p
 | 0,i,l,ho,hi,hc=>by
  intro p hp;obtain⟨j,hj,rfl⟩:=List.getElem_of_mem hp;have hj':j<l.length:=hj;have:=sixteen hw hr ho;exact hc j (by omega) hj'
 | k+1,i,l,ho,hi,hc=>by
  have h16:=sixteen hw hr ho;rw[jF];split
  ·rename_i hn
   intro p hp;obtain⟨j,hj,rfl⟩:=List.getElem_of_mem hp;have:l.length≤i:=by
    rcases Nat.lt_or_ge i l.length with h | h
    ·rw[List.getElem?_eq_getElem h] at hn;cases hn
    ·exact h
   exact hc j (by omega) hj
  ·rename_i p hp
   have hpm:=List.mem_of_getElem? hp;have hf:=BZ hw hr (i:=i) (ho.2 p hpm) (typeOf w p.w).fields l (fun _ h=>h) ho;obtain⟨m,hm⟩:=xP i (typeOf r p.r) (typeOf w p.w).fields l;refine xS hw hr k (i+1) _ hf (by omega) ?_;intro j hj hjl
   by_cases hji:j=i
   ·subst hji;have hlt:j<l.length:=by
     rcases Nat.lt_or_ge j l.length with h | h
     ·exact h
     ·rw[List.getElem?_eq_none h] at hp;cases hp
    have e:((typeOf w p.w).fields.foldl (dA j (typeOf r p.r)) l)[j]=p:=by
     have:((typeOf w p.w).fields.foldl (dA j (typeOf r p.r)) l)[j]? = some p:=by
      rw[hm,List.getElem?_append_left hlt];exact hp
     rw[List.getElem?_eq_getElem hjl] at this;injection this
    rw[e];exact Np j _ _ l
   ·have hlt:j<l.length:=by
     have:i<l.length:=by
      rcases Nat.lt_or_ge i l.length with h | h
      ·exact h
      ·rw[List.getElem?_eq_none h] at hp;cases hp
     omega
    have e:((typeOf w p.w).fields.foldl (dA i (typeOf r p.r)) l)[j]=l[j]:=by
     have:((typeOf w p.w).fields.foldl (dA i (typeOf r p.r)) l)[j]? = some l[j]:=by
      rw[hm,List.getElem?_append_left hlt];exact List.getElem?_eq_getElem hlt
     rw[List.getElem?_eq_getElem hjl] at this;injection this
    rw[e,hm];exact(hc j (by omega) hlt).mono
theorem VN {w r:av}{f g:ay}(h:lq w r f g=[]):kindOf f.kind=kindOf g.kind∧(kindOf f.kind=0→nN w r f g=none)∧(f.rule=3→g.rule=3):=by
 unfold lq at h;have hl:=congrArg List.length h;rw[nu,List.length_append,List.length_nil] at hl;have ha:Ou w r f g=[]:=List.eq_nil_of_length_eq_zero (by omega);have hb:Qu f g=[]:=List.eq_nil_of_length_eq_zero (by omega);unfold Ou at ha;unfold Qu at hb;split at ha
 ·cases ha
 ·rename_i h1
  split at ha
  ·cases ha
  ·rename_i h2
   refine⟨Classical.byContradiction h1,fun h0=>?_,fun h3=>?_⟩
   ·cases hc:nN w r f g with
    | none=>rfl
    | some n=>exact absurd ⟨h0,by rw[hc];rfl⟩ h2
   ·split at hb
    ·cases hb
    ·rename_i h4;exact Classical.byContradiction fun h5=>h4 ⟨h3,h5⟩
theorem lY {k:Int}(h1:1≤k)(h5:k≤5):kindOf k=0↔k=1∨k=2∨k=4:=by
 unfold kindOf;split
 ·simp;omega
 ·split
  ·simp;omega
  ·simp;omega
theorem Dz {t:ax}{n:Int}:jT t n=true↔n∈t.items.map (·.n):=by
 unfold jT;rw[List.any_eq_true,List.mem_map];constructor
 ·rintro⟨x,hx,h⟩;exact⟨x,hx,by simpa using h⟩
 ·rintro⟨x,hx,h⟩;exact⟨x,hx,by simpa using h⟩
theorem abm {w r:av}(hw:aB w=0)(hr:aB r=0){f g:ay}(hf:iC w f)(hg:iC r g)(hk:kindOf f.kind=kindOf g.kind)(h0:kindOf f.kind=0)(hl:nN w r f g=none){x:aj}(hx:eO w f x=0) :
  okN r g x.n=true ∧ -1099511627776≤x.n∧x.n≤1099511627776:=by
 obtain⟨hx1,hx2⟩:=ja hx;have hnum:∀ n∈numsOf w f,okN r g n=true:=by
  intro n hn;unfold nN at hl;have:=List.find?_eq_none.1 hl n hn;simpa using this
 have hrest:=hx;unfold eO at hrest;rw[if_neg (by simpa using hx1),if_neg (by rw[hx2];decide)] at hrest;rcases(lY hf.2.2.2.1 hf.2.2.2.2.1).1 h0 with e | e | e
 ·rw[if_pos e] at hrest;have hn:x.n=0∨x.n=1:=by
   split at hrest
   ·assumption
   ·cases hrest
  refine⟨hnum x.n ?_,by omega,by omega⟩;unfold numsOf;rw[if_pos e];rcases hn with h | h <;> rw[h] <;> simp
 ·rw[if_neg (by omega),if_pos e] at hrest;have hn : -1099511627776≤x.n∧x.n≤1099511627776:=by
   split at hrest
   ·cases hrest
   ·rename_i h;omega
  refine⟨?_,hn⟩;have hall:∀ n∈([0,1,2,3,4,5,6]:List Int),okN r g n=true:=by
   intro n hn;refine hnum n ?_;unfold numsOf;rw[if_neg (by omega),if_neg (by omega)];exact hn
  rcases(lY hg.2.2.2.1 hg.2.2.2.2.1).1 (by rw[←hk];exact h0) with e2 | e2 | e2
  ·have:=hall 2 (by simp);unfold okN at this;rw[if_pos e2] at this;simp at this
  ·unfold okN;rw[if_neg (by omega),if_neg (by omega)]
  ·obtain⟨t,-,ht,-,he⟩:=rY hr hg e2;have hin:∀ n∈([0,1,2,3,4,5,6]:List Int),n∈(typeOf r g.type).items.map (·.n):=by
    intro n hn;have:=hall n hn;unfold okN at this;rw[if_neg (by omega),if_pos e2] at this;exact Dz.1 this
   have:=xB [0,1,2,3,4,5,6] _ (by decide) hin;rw[List.length_map,ht] at this;have h6:=he.2.2.1;simp only[List.length_cons,List.length_nil] at this;omega
 ·rw[if_neg (by omega),if_neg (by omega),if_neg (by omega),if_pos e] at hrest;have hm:jT (typeOf w f.type) x.n=true:=by
   unfold typeOf;split at hrest
   ·assumption
   ·cases hrest
  have hmem:=Dz.1 hm;refine⟨hnum x.n ?_,?_⟩
  ·unfold numsOf;rw[if_neg (by omega),if_pos e];exact hmem
  ·obtain⟨t,-,ht,-,he⟩:=rY hw hf e;rw[ht] at hmem;obtain⟨y,hy,hyn⟩:=List.mem_map.1 hmem;obtain⟨i,hi,rfl⟩:=List.getElem_of_mem hy;have:=he.1 i hi;rw[←hyn];exact⟨this.2.1,this.2.2.1⟩
theorem ahD {w r:av}(hw:aB w=0)(hr:aB r=0){f g:ay}(hf:iC w f)(hg:iC r g)(hy:lq w r f g=[]){x:aj}(hx:eO w f x=0)(id:Int)(inner:List UInt8) :
  eO r g (mO (partOf id x inner))=0∧(f.kind=5↔g.kind=5):=by
 obtain⟨hk,hl,-⟩:=VN hy;have h1f:=hf.2.2.2.1;have h5f:=hf.2.2.2.2.1;have h1g:=hg.2.2.2.1;have h5g:=hg.2.2.2.2.1;have h55:f.kind=5↔g.kind=5:=by
  constructor
  ·intro h;rw[h] at hk;unfold kindOf at hk;simp only[show ¬ ((5:Int)=3) by decide,if_false,if_true] at hk;split at hk
   ·cases hk
   ·split at hk
    ·assumption
    ·cases hk
  ·intro h;rw[h] at hk;unfold kindOf at hk;simp only[show ¬ ((5:Int)=3) by decide,if_false,if_true] at hk;split at hk
   ·cases hk
   ·split at hk
    ·assumption
    ·cases hk
 refine⟨?_,h55⟩;obtain⟨hx1,hx2⟩:=ja hx
 by_cases h5:f.kind=5
 ·have h2:x.kind=2:=by rw[hx1,h5];rfl
  obtain⟨o1,o2,o3⟩:=rD.1 hx2;refine Jg (h55.1 h5) ?_ ?_ ?_
  ·exact h2
  ·exact o2 (by rw[h2];decide)
  ·show (if x.kind=1 then _ else _:ByteArray).size=0;rw[if_neg (by rw[h2];decide)];rfl
 ·rw[(Bg hx id inner).2 h5];have hg5:¬ g.kind=5:=fun h=>h5 (h55.2 h)
  unfold eO;rw[if_neg (by rw[hx1,hk];simp),if_neg (by rw[hx2];decide)]
  by_cases h0:kindOf f.kind=0
  ·obtain⟨hn,hb1,hb2⟩:=abm hw hr hf hg hk h0 (hl h0) hx;unfold okN at hn;rcases(lY h1g h5g).1 (by rw[←hk];exact h0) with e | e | e
   ·rw[if_pos e] at hn ⊢;rw[if_pos (by simpa using hn)]
   ·rw[if_neg (by omega),if_pos e,if_neg (by omega)]
   ·rw[if_neg (by omega),if_pos e] at hn;rw[if_neg (by omega),if_neg (by omega),if_neg (by omega),if_pos e];unfold typeOf at hn;rw[hn];rfl
  ·have hf3:f.kind=3:=by
    have:=mt (lY h1f h5f).2 h0;omega
   have hg3:g.kind=3:=by
    have:=mt (lY h1g h5g).2 (by rw[←hk];exact h0);omega
   have hrest:=hx;unfold eO at hrest;rw[if_neg (by simpa using hx1),if_neg (by rw[hx2];decide),if_neg (by omega),if_neg (by omega),if_pos hf3] at hrest;rw[if_neg (by omega),if_neg (by omega),if_pos hg3];exact hrest
def Lt (w r:av)(l:List bQ):Prop:=∀ p∈l,∀ f∈(typeOf w p.w).fields,∀ g,aC (typeOf r p.r) f.id=some g→lq w r f g=[]
theorem Zk {w r:av}{name:ByteArray}(h:lm w r name=[]):Lt w r (gu w r name):=by
 intro p hp f hf g hg;have h1:=List.flatMap_eq_nil_iff.1 h p hp;have h2:=List.flatMap_eq_nil_iff.1 h1 f hf;unfold iJ at h2;rw[hg] at h2;exact List.map_eq_nil_iff.1 h2
theorem Vx:∀ {l:List aX},kE l=[]→l=[]
 | [],_=>rfl
 | [x],h=>by simp[kE] at h
 | x::y::l,h=>by
  rw[kE] at h;split at h
  ·exact absurd (Vx h) (by simp)
  ·cases h
theorem Mv {w r:av}{name:ByteArray}(hb:iH w r name=0)(h:(dH w r name).1=[]):lm w r name=[]:=by
 unfold dH at h;rw[if_neg (by simpa using hb)] at h;have:=Vx h;have hl:=congrArg List.length this;rw[nu] at hl;exact List.eq_nil_of_length_eq_zero hl
def uW (r:av)(k:Nat)(t:ax)(z:List (Int × aj)):List (Int × aj):=(z.filter fun p=>(aC t p.1).isSome).map fun p=>(p.1,if ((aC t p.1).getD .zero).kind=5 then iy r k (typeOf r ((aC t p.1).getD .zero).type) p.2 else p.2)
theorem CU {r:av}{k:Nat}{t:ax}{p:Int × aj}{z:List (Int × aj)}(h:aC t p.1=none):uW r k t (p::z)=uW r k t z:=by
 unfold uW;rw[List.filter_cons_of_neg (by rw[h];simp)]
theorem vY {r:av}{k:Nat}{t:ax}{p:Int × aj}{z:List (Int × aj)}{g:ay}(h:aC t p.1=some g):uW r k t (p::z)=(p.1,if g.kind=5 then iy r k (typeOf r g.type) p.2 else p.2)::uW r k t z:=by
 unfold uW;rw[List.filter_cons_of_pos (by rw[h];rfl),List.map_cons,h];rfl
theorem IG {w r:av}(hw:aB w=0)(hr:aB r=0){tw tr:ax}(hmw:dU w tw)(hmr:dU r tr){k:Nat}{rec:ax→List UInt8→aj × Int}(hc:∀ f∈tw.fields,∀ g,aC tr f.id=some g→lq w r f g=[])
  (hrec:∀ f∈tw.fields,∀ g,aC tr f.id=some g→f.kind=5→g.kind=5→∀ x,aD x≤k→cz w (typeOf w f.type) x=0→(dI x).2=0→rec (typeOf r g.type) (dI x).1=(iy r k (typeOf r g.type) x,0)):∀ (l:List aj) (ids:List Int) (last:Option Int) (ai:List Int) (al:List aj),ids.length=l.length →
  (∀ id∈ids,(aC tw id).isSome=true∧∀ k,last=some k→mR tw k id)→ids.Pairwise (mR tw)→(∀ p∈ids.zip l,vR w tw p.1 p.2) →
  (∀ i∈ai,∃ k,last=some k∧i≤k)→(∀ x∈l,aD x≤k)→(∀ x∈l,x.kind=2→(dI x).2=0) →
  gm r rec tr last (jI ids l) ai al=((ai++(uW r k tr (ids.zip l)).map (·.1),al++(uW r k tr (ids.zip l)).map (·.2)),0)
 | [],ids,last,ai,al,h,_,_,_,_,_,_=>by
  have:ids=[]:=List.eq_nil_of_length_eq_zero (by simpa using h);subst this;simp[jI,gm,uW]
 | x::l,[],last,ai,al,h,_,_,_,_,_,_=>by simp at h
 | x::l,id::ids,last,ai,al,h,hk,hp,hf,ha,hd,he=>by
  have hid:=hk id (by simp);obtain⟨f,hff⟩:=Option.isSome_iff_exists.1 hid.1;have hfit:=hf (id,x) (by simp);unfold vR at hfit;simp only[hff,Option.getD_some] at hfit;obtain⟨hfm,hfi⟩:=bE hff;have hp':=List.pairwise_cons.1 hp;have hfall:nQ last (partOf id x (dI x).1).id=false:=by
   unfold nQ;cases hl:last with
   | none=>rfl
   | some k=>exact decide_eq_false (Int.not_lt.2 (hid.2 k hl).1)
  have hpid:(partOf id x (dI x).1).id=id:=rfl;rw[jI,gm,if_neg (by rw[hfall];decide),hpid,List.zip_cons_cons];cases hgg:aC tr id with
  | none =>
   simp only;rw[CU hgg];exact IG hw hr hmw hmr hc hrec l ids (some id) ai al (by simpa using h) (fun i hi=>⟨(hk i (by simp[hi])).1,fun k hk'=>by cases hk';exact hp'.1 i hi⟩) hp'.2 (fun p hp=>hf p (by simp[hp]))
    (fun i hi=>by
     obtain⟨k,hk1,hk2⟩:=ha i hi;have:=(hid.2 k hk1).1;exact⟨id,rfl,by omega⟩) (fun y hy=>hd y (by simp[hy])) (fun y hy=>he y (by simp[hy]))
  | some g =>
   simp only;obtain⟨hgm,hgi⟩:=bE hgg;have hgg':aC tr f.id=some g:=by rw[hfi];exact hgg
   have hy:=hc f hfm g hgg';obtain⟨q1,q5⟩:=ahD hw hr (bC hmw hfm) (bC hmr hgm) hy hfit.1 id (dI x).1;have htwice:¬ (g.rule≠3∧dV ai id=true):=by
    rintro⟨h1,h2⟩;rw[ow] at h2;obtain⟨k,hk1,hk2⟩:=ha id h2;have:=hid.2 k hk1;have e:k=id:=by have:=this.1;omega
    have:=this.2 e;rw[e,hff] at this;exact h1 ((VN hy).2.2 this)
   rw[if_neg (by simpa using q1),if_neg htwice,vY hgg];have ih:=fun (y:aj)=>IG hw hr hmw hmr hc hrec l ids (some id) (ai++[id]) (al++[y]) (by simpa using h) (fun i hi=>⟨(hk i (by simp[hi])).1,fun k hk'=>by cases hk';exact hp'.1 i hi⟩) hp'.2 (fun p hp=>hf p (by simp[hp]))
    (fun i hi=>by
     rcases List.mem_append.1 hi with hi | hi
     ·obtain⟨k,hk1,hk2⟩:=ha i hi;have:=(hid.2 k hk1).1;exact⟨id,rfl,by omega⟩
     ·simp at hi;exact⟨id,rfl,by omega⟩) (fun y hy=>hd y (by simp[hy])) (fun y hy=>he y (by simp[hy]))
   by_cases h5:g.kind=5
   ·have hf5:=q5.2 h5;have hx2:x.kind=2:=by rw[(ja hfit.1).1,hf5];rfl
    have hs:bytes (partOf id x (dI x).1).s=(dI x).1:=by simp only[partOf,if_pos hx2]
    have:=hrec f hfm g hgg' hf5 h5 x (hd x (by simp)) (hfit.2 hf5) (he x (by simp) hx2);rw[if_pos h5,hs,this,if_pos h5];simp only[ne_eq,not_true,if_false];rw[ih];simp
   ·have hf5:f.kind≠5:=fun h=>h5 (q5.1 h)
    rw[if_neg h5,if_neg h5,(Bg hfit.1 id (dI x).1).2 hf5,ih];simp
theorem wL {r:av}{k:Nat}{t:ax}{i:Int}{g:ay}(h:aC t i=some g):∀ z:List (Int × aj),(uW r k t z).filter (fun p=>decide (p.1=i))=(z.filter fun p=>decide (p.1=i)).map fun p=>(p.1,if g.kind=5 then iy r k (typeOf r g.type) p.2 else p.2)
 | []=>rfl
 | p::z=>by
  by_cases e:p.1=i
  ·rw[vY (by rw[e];exact h),List.filter_cons_of_pos (by simpa using e),List.filter_cons_of_pos (by simpa using e),List.map_cons,wL h z]
  ·rw[List.filter_cons_of_neg (by simpa using e)];cases hp:aC t p.1 with
   | none=>rw[CU hp,wL h z]
   | some g'=>rw[vY hp,List.filter_cons_of_neg (by simpa using e),wL h z]
theorem BS {α β:Type}:∀ l:List (α × β),(l.map (·.1)).zip (l.map (·.2))=l
 | []=>rfl
 | (a,b)::l=>by simp[BS l]
theorem vM {z:List (Int × aj)}{i:Int}:dV (z.map (·.1)) i=true↔z.filter (fun p=>decide (p.1=i))≠[]:=by
 rw[ow,List.mem_map];constructor
 ·rintro⟨p,hp,e⟩ h;have:p∈z.filter (fun p=>decide (p.1=i)):=List.mem_filter.2 ⟨hp,by simpa using e⟩;rw[h] at this;cases this
 ·intro h;obtain⟨p,hp⟩:=List.exists_mem_of_ne_nil _ h;obtain⟨h1,h2⟩:=List.mem_filter.1 hp;exact⟨p,h1,by simpa using h2⟩
theorem YY {r:av}{tr:ax}(hm:dU r tr)(k:Nat){ids:List Int}{l:List aj}(hl:ids.length=l.length) :
  kz r 4 tr ((uW r k tr (ids.zip l)).map (·.1)) ((uW r k tr (ids.zip l)).map (·.2))=vI ((tr.fields.flatMap (jb r k ids l)).map (·.1)) ((tr.fields.flatMap (jb r k ids l)).map (·.2)):=by
 have e:tr.fields.flatMap (eQ r 4 ((uW r k tr (ids.zip l)).map (·.1)) ((uW r k tr (ids.zip l)).map (·.2)))=tr.fields.flatMap (jb r k ids l):=by
  rw[List.flatMap_def,List.flatMap_def]
  congr 1
  refine List.map_congr_left fun f hf=>?_
  have hff:=jB hm hf;have hk:=wL (r:=r) (k:=k) hff (ids.zip l);have hi:dV ids f.id=dV ((ids.zip l).map (·.1)) f.id:=by rw[zip_fst _ _ hl]
  unfold eQ jb;rw[BS,hk,hi];cases h1:dV ((ids.zip l).map (·.1)) f.id with
  | true =>
   have h2:dV ((uW r k tr (ids.zip l)).map (·.1)) f.id=true:=by
    rw[vM,hk];have:=vM.1 h1;intro h;exact this (List.map_eq_nil_iff.1 h)
   rw[h2,if_neg (by simp),if_neg (by simp)];rfl
  | false =>
   have h0:(ids.zip l).filter (fun p=>decide (p.1=f.id))=[]:=Classical.byContradiction fun h=>by rw[vM.2 h] at h1;cases h1
   have h2:dV ((uW r k tr (ids.zip l)).map (·.1)) f.id=false:=by
    cases h3:dV ((uW r k tr (ids.zip l)).map (·.1)) f.id with
    | false=>rfl
    | true =>
     have:=vM.1 h3;rw[hk,h0] at this;exact absurd rfl this
   rw[h2,h0]
   by_cases hr:f.rule=1
   ·rw[if_pos ⟨hr,rfl⟩,if_pos ⟨rfl,hr⟩];rfl
   ·rw[if_neg (fun h=>hr h.1),if_neg (fun h=>hr h.2)];rfl
 unfold kz;rw[e]
theorem aaN {w r:av}(hw:aB w=0)(hr:aB r=0){P:List bQ}(hP:Lt w r P)(hcl:∀ p∈P,ClosedAt w r P p)(hok:ic w r P) :
  ∀ (k:Nat) (a b:ByteArray) (v:aj),vP P a b=true→(typeOf w a).enum=false→(typeOf r b).enum=false→aD v≤k→cz w (typeOf w a) v=0→(dI v).2=0→iN r k (typeOf r b) (dI v).1=(iy r k (typeOf r b) v,0)
 | 0,_,_,.mk _ _ _ _ _,_,_,_,hd,_,_=>by rw[aD] at hd;omega
 | k+1,a,b,.mk kind n s ids l,hab,hea,heb,hd,ht,he=>by
  obtain⟨p,hp,hpk⟩:=List.mem_map.1 (PE.1 hab);unfold Ry at hpk;injection hpk with e1 e2
  subst e1 e2;have hmw:=bq hw (dB (hok.2 p hp).1) hea;have hmr:=bq hr (dB (hok.2 p hp).2) heb;obtain⟨a1,a2,a3,a4,a5,a6,a7,a8⟩:=(iO w _ _).1 ht;simp only[aj.kind,aj.ids,aj.l,aj.n,aj.s] at a1 a2 a3 a4 a5 a6 a7 a8;subst a1 a3;have hin:∀ x∈l,x.kind=2→(dI x).2=0:=by
   rw[dI] at he;split at he
   ·rename_i h1;exact absurd he h1
   ·rename_i h1
    exact BA l ids [] a2 (by simpa using h1)
  have hdl:∀ x∈l,aD x≤k:=by
   intro x hx;have:=rW hx;rw[aD] at hd;omega
  rw[OQ a2 hin] at he ⊢;have hdec:=Fy (l:=jI ids l) (r:=(jD (jI ids l) []).1) (by rw[←he]);rw[iN,hdec];simp only[ne_eq,not_true,if_false];rw[IG hw hr hmw hmr (k:=k) (rec:=iN r k) (hP p hp) (fun f hf g hg h5 h6 x hxd hxt hxe=>by
   obtain⟨t1,_,h1,_,_,i1,_⟩:=gZ hw (bC hmw hf) h5;obtain⟨t2,_,h2,_,_,i2,_⟩:=gZ hr (bC hmr (bE hg).1) h6;exact aaN hw hr hP hcl hok k f.type g.type x (hcl p hp f hf g hg h5 h6) (by rw[h1];exact i1) (by rw[h2];exact i2) hxd hxt hxe) l ids none [] [] a2 (fun i hi=>⟨a5 i hi,fun k hk=>by cases hk⟩) a6 a7 (fun i hi=>by cases hi) hdl hin]
  simp only[ne_eq,not_true,if_false,List.nil_append];rw[YY hmr k a2,iy];rfl
theorem Ri {r:av}:∀ (k j:Nat) (t:ax) (v:aj),aD v≤k→aD v≤j→iy r k t v=iy r j t v
 | 0,_,_,.mk _ _ _ _ _,h,_=>by rw[aD] at h;omega
 | _,0,_,.mk _ _ _ _ _,_,h=>by rw[aD] at h;omega
 | k+1,j+1,t,.mk kind n s ids l,h,h'=>by
  have e:t.fields.flatMap (jb r k ids l)=t.fields.flatMap (jb r j ids l):=by
   rw[List.flatMap_def,List.flatMap_def]
   congr 1
   refine List.map_congr_left fun f hf=>?_
   unfold jb;split
   ·rfl
   ·refine List.map_congr_left fun p hp=>?_
    have hm:=(List.of_mem_zip (List.mem_filter.1 hp).1).2;have:=rW hm;rw[aD] at h h';split
    ·rw[Ri k j _ p.2 (by omega) (by omega)]
    ·rfl
  rw[iy,iy];simp only[aj.ids,aj.l];rw[e]
theorem abh {w r:av}{name:ByteArray}{v:aj}(hb:iH w r name=0)(hf:(dH w r name).1=[])(ht:dQ w name v=0) :
  iN r 24 (typeOf r name) (dI v).1=(iy r (aD v) (typeOf r name) v,0):=by
 obtain⟨hw,hr,hn1,hn2⟩:=mI hb;obtain⟨-,-,hs,htt⟩:=nX ht;obtain⟨hd,hc⟩:=pR.1 hs;have hcl:=Zk (Mv hb hf);have ho:=kY hw hr 18 0 _ (iK hn1 hn2);have hclo:=xS hw hr 18 0 _ (iK hn1 hn2) (by omega) (fun j hj=>by omega);obtain⟨m,hm⟩:∃ m,gu w r name=[⟨name,name,-1,0⟩]++m:=by
  have key:∀ (k i:Nat) (l:List bQ),∃ m,jF w r k i l=l++m:=by
   intro k
   induction k with
   | zero=>intro i l;exact⟨[],by simp[jF]⟩
   | succ k ih =>
    intro i l;rw[jF];split
    ·exact⟨[],by simp⟩
    ·rename_i p _
     obtain⟨m1,h1⟩:=xP i (typeOf r p.r) (typeOf w p.w).fields l;obtain⟨m2,h2⟩:=ih (i+1) (l++m1);rw[h1,h2];exact⟨m1++m2,by rw[List.append_assoc]⟩
  exact key 18 0 _
 have hin:vP (gu w r name) name name=true:=by
  rw[hm];exact Eg (by simp[vP])
 have hmw:=bq hw (dB (qg hn1).1) (qg hn1).2;have he:=(Ma hw (aD v) v _ (Nat.le_refl _) hc hmw htt).1;have hdec:=aaN hw hr hcl hclo ho 24 name name v hin (qg hn1).2 (qg hn2).2 hd htt he;rw[Ri (aD v) 24 _ v (Nat.le_refl _) hd];exact hdec
theorem Ur {w r:av}{name:ByteArray}{v:aj}(hb:iH w r name=0)(hf:(dH w r name).1=[])(ht:dQ w name v=0):aW (iy r (aD v) (typeOf r name) v)≤240012∧aD (iy r (aD v) (typeOf r name) v)≤29:=by
 obtain⟨-,hr,-,hn2⟩:=mI hb;have h:=EP hr hn2 (dI v).1;rw[abh hb hf ht] at h;exact h
theorem ahr {w r:av}{name:ByteArray}{v:aj}(hb:iH w r name=0)(hf:(dH w r name).1=[])(ht:dQ w name v=0) :
  uk w r name v=fZ r name (dI v).1∧((uk w r name v).2=0∨(uk w r name v).2=7):=by
 obtain⟨-,hr,hn1,hn2⟩:=mI hb;have hdec:=abh hb hf ht;have e:uk w r name v=if jA (iy r (aD v) (typeOf r name) v)=false then (.zero,7) else (iy r (aD v) (typeOf r name) v,0):=by
  unfold uk;rw[if_neg (by simpa using hb),if_neg (by simpa using ht),if_neg (by rw[hf];simp)]
 have e2:fZ r name (dI v).1=if jA (iy r (aD v) (typeOf r name) v)=false then (.zero,7) else (iy r (aD v) (typeOf r name) v,0):=by
  unfold fZ;rw[if_neg (by simpa using hr),if_neg (by rw[hn2];decide),hdec];simp only[ne_eq,not_true,if_false]
 refine⟨by rw[e,e2],?_⟩;rw[e];split
 ·exact .inr rfl
 ·exact .inl rfl
open Go.RowKit
def kQ (b:av)(name:ByteArray)(id:Int):aj × Int:=if aB b≠0 then (.zero,1) else if (aC (typeOf b name) id).isSome=false then (.zero,3) else (aL b 4 ((aC (typeOf b name) id).getD .zero),0)
theorem Po {b:av}{name:ByteArray}{id:Int}(hg:aB b=0)(h:(aC (typeOf b name) id).isSome=true):iC b ((aC (typeOf b name) id).getD .zero)∧yE b 4 ((aC (typeOf b name) id).getD .zero):=by
 obtain⟨f,hf⟩:=Option.isSome_iff_exists.1 h;rw[hf];have h1:=(bE hf).1;unfold typeOf at h1;cases ht:aM b name with
 | none=>rw[ht] at h1;cases h1
 | some t =>
  rw[ht] at h1;have htm:=(eU ht).1;cases he:t.enum with
  | true =>
   have hm:=fE hg htm he;have hz:t.fields=[]:=List.eq_nil_of_length_eq_zero hm.2.2.2.1;have h2:f∈t.fields:=h1;rw[hz] at h2;cases h2
  | false =>
   have hm:=bq hg htm he;exact⟨bC hm h1,oz hg hm h1⟩
theorem uF {W:World}{a:Act}{g:Nat}{c0 c1 c2 c3 c4:Value}{n:Int}(hb:Box W g 65 [c0,c1,c2,c3,c4])(h4:a.tmps.getD 6 undef=.pointer (some ⟨g,0,none⟩))(h5:a.tmps.getD 7 undef=O n) :
  (results f119 a.tmps).run prog W=.ok (.tuple #[.agg #[c0,c1,c2,c3,c4],O n]) W:=by
 obtain⟨e0,e1,e2,e3,e4⟩:=hb.five;simp only[Array.getD_eq_getD_getElem?] at h4 h5;simp[results,results119,go_sem,h4,h5,e0,e1,e2,e3,e4]
theorem Cn (S:Nat→Prop)(vb:Value)(b:av)(name:ByteArray)(id:Int)(w:World)(hb0:RSl 5 96 ah S w [vb] b)(hM:Words w)(hB:aS b) :
  Calls prog 119 #[.agg #[vb],.string name,O id] w (jf w (kQ b name id)):=by
 obtain⟨A,cap,rfl,hlc,hlb⟩:=hb0.form;obtain⟨r,hrr⟩:=exE (kQ b name id);have hr0:r=if aB b≠0 then (.zero,1) else if (aC (typeOf b name) id).isSome=false then (.zero,3) else (aL b 4 ((aC (typeOf b name) id).getD .zero),0):=hrr
 have hrun:aB b=0→(aC (typeOf b name) id).isSome=true→∀ W xid xname xtype xkind xrule,(aC (typeOf b name) id).getD .zero=⟨xid,xname,xtype,xkind,xrule⟩→RSl 5 96 ah S W [.slice A b.length cap] b→Calls prog 159 #[.agg #[.slice A b.length cap],.agg (FF xid xname xtype xkind xrule).toArray] W (wC W (aL b 4 ((aC (typeOf b name) id).getD .zero))):=fun hg hs W xid xname xtype xkind xrule he h0=>by
  obtain⟨h1,h2⟩:=Po hg hs;rw[he] at h1 h2 ⊢;exact yJ S (.slice A b.length cap) b hg 4 ⟨xid,xname,xtype,xkind,xrule⟩ W h0 h1 h2
 have hgood:=fun W (h0:RSl 5 96 ah S W [.slice A b.length cap] b) (h1:Words W)=>kS S _ b W h0 h1 hB
 rw[←hrr];obtain⟨lv,hlv⟩:=exE (aL b 4 ((aC (typeOf b name) id).getD .zero));rw[←hlv] at hr0 hrun;obtain⟨gd,hgd⟩:=exE (aB b);rw[←hgd] at hgood hr0 hrun;obtain⟨ty,hty⟩:=exE (typeOf b name);rw[←hty] at hr0 hrun;have HB:=hidL hb0;have HM:=hidL hM;have Hrun:=hidL hrun;have Hgood:=hidL hgood;have Hr:=hidL hr0;have Hty:=hidL hty;obtain⟨x1,x2,x3⟩:=bY w [.slice A b.length cap] [O 0,O 0,E0,Z0,Z0] 38 65;clear hb0 hM hB hrr hr0 hrun hlv hgd hty hgood;go_enter func119,ntmps119;go_wp2_with fail;refine(gH S _ b name _ ((RSl.fair ah.fair).below HB.out x3)).mono ?_;rintro e w2 ⟨cs3,rfl,hr3,hb2⟩;obtain⟨B1,l1,B2,l2,B3,l3,rfl,-,-,-⟩:=hr3.parts;have hty':(aM b name).getD ax.zero=ty:=Hty.out.symm;rw[hty'] at hr3 ⊢;obtain⟨okt,hokt⟩:=exE ((aM b name).isSome);rw[←hokt];have HT:=hidL (ah.fair.keep hr3 (az.of_below (hb2.alloc hb2.size (.cells (TT ty B1 l1 B2 l2 B3 l3).toArray 53))));have hw2:=(aa x3 hb2 x3.size).alloc (aa x3 hb2 x3.size).size (.cells (TT ty B1 l1 B2 l2 B3 l3).toArray 53);have z1:=(x1.below hb2 x1.lt).alloc (.cells (TT ty B1 l1 B2 l2 B3 l3).toArray 53);have z2:=(x2.below hb2 x2.lt).alloc (.cells (TT ty B1 l1 B2 l2 B3 l3).toArray 53);have zt:Box (w2.alloc (.cells (TT ty B1 l1 B2 l2 B3 l3).toArray 53)) w2.heap.size 53 (TT ty B1 l1 B2 l2 B3 l3):=Box.new w2 _ _;clear hr3 hb2 hokt hty' x1 x2 x3;go_wp2_with fail;generalize hWq:w2.alloc (.cells (TT ty B1 l1 B2 l2 B3 l3).toArray 53)=W2 at *;generalize hXq:w2.heap.size=XT at *;clear hWq hXq w2;refine(yZ S _ ty id _ HT.out).mono ?_;rintro e w3 ⟨fx,hfx,rfl,hb3⟩;obtain⟨xid,xname,xtype,xkind,xrule⟩:=fx;dsimp only;obtain⟨so,hso⟩:=exE ((aC ty id).isSome);rw[←hso] at Hr Hrun ⊢;have hw3:=(aa hw2 hb3 hw2.size).alloc (aa hw2 hb3 hw2.size).size (.cells (FF xid xname xtype xkind xrule).toArray 55);have v1:=(z1.below hb3 z1.lt).alloc (.cells (FF xid xname xtype xkind xrule).toArray 55);have v2:=(z2.below hb3 z2.lt).alloc (.cells (FF xid xname xtype xkind xrule).toArray 55);have vx:Box (w3.alloc (.cells (FF xid xname xtype xkind xrule).toArray 55)) w3.heap.size 55 (FF xid xname xtype xkind xrule):=Box.new w3 _ _;have s0:LL w3 w.heap.size 0 (.slice A b.length cap):=(z1.below hb3 z1.lt).cell 0;have hl1:=(z1.below hb3 z1.lt).lt;clear hb3 z1 z2 zt hso hw2;go_wp2_with fail;generalize hWq:w3.alloc (.cells (FF xid xname xtype xkind xrule).toArray 55)=W3 at *;generalize hXq:w3.heap.size=X at *;clear hWq hXq s0 hl1 w3;refine(Hgood.out _ ((RSl.fair ah.fair).below HB.out hw3) (HM.out.below hw3)).mono ?_;rintro e w4 ⟨rfl,hb4⟩;have hw4:=aa hw3 hb4 hw3.size;have u1:=v1.below hb4 v1.lt;have u2:=v2.below hb4 v2.lt;have ux:=vx.below hb4 vx.lt;clear hb4 v1 v2 vx hw3
 by_cases hg0:gd=0
 ·subst hg0;rw[if_neg (by simp)] at Hr;cases so with
  | false =>
   rw[if_pos rfl] at Hr;have Hno:=Hr;have Hb5:=hidL (u2.setCells [O 0,O 0,E0,Z0,Z0] rfl);have Hw5:=hidL (below_setCells (g:=w.heap.size+1) (Nat.le_succ _) [O 0,O 0,E0,Z0,Z0] 0 _ hw4);obtain⟨r0,r1,r2,r3,r4,g0,g1,g2,g3,g4,hlr⟩:=(u2).rr5;go_wp2_with fail;change bodyPost _ _ _ _ _ (setCells w4 (w.heap.size+1) 0 [O 0,O 0,E0,Z0,Z0]);rw[Hno.out];exact bodyPost_ret (uF Hb5.out rfl rfl) rfl ⟨_,rfl,aA.zero,Hw5.out⟩
  | true =>
   rw[if_neg (by simp)] at Hr;have Hno:=Hr;have Hrun2:=hidL (fun W=>Hrun.out (by simp) (by simp) W xid xname xtype xkind xrule hfx.out);have s0:LL w4 w.heap.size 0 (.slice A b.length cap):=u1.cell 0;have hl1:=u1.lt;obtain⟨k0,k1,k2,k3,k4⟩:=ux.five;have hlx:=ux.lt;clear Hrun hfx;go_wp2_with fail;refine(Hrun2.out _ ((RSl.fair ah.fair).below HB.out hw4)).mono ?_;rintro e w5 ⟨cs5,rfl,hr5,hb5⟩;obtain⟨vk,vn,vs,vids,vls⟩:=lv;clear s0 hl1 k0 k1 k2 k3 k4 hlx;obtain⟨D1,h1,D2,h2,rfl,-,-⟩:=hr5.parts;have hwz:=aa hw4 hb5 hw4.size;have yz:=u2.below hb5 u2.lt;have Hb5:=hidL (yz.setCells (VV vk vn vs D1 vids h1 D2 vls h2) rfl);have Hw5:=hidL (below_setCells (g:=w.heap.size+1) (Nat.le_succ _) (VV vk vn vs D1 vids h1 D2 vls h2) 0 _ hwz);have hlo:w.heap.size+1<w4.heap.size:=u2.lt;have Hr5:=hidL (aA.fair.mono (aA.fair.keep hr5 (az.setCells (g:=w.heap.size+1) (by show ¬ (w4.heap.size≤w.heap.size+1);omega) (VV vk vn vs D1 vids h1 D2 vls h2) 0 w5)) (T:=New w) (fun q hq _=>(show w.heap.size≤q by have:w4.heap.size≤q:=hq;omega)));obtain⟨r0,r1,r2,r3,r4,g0,g1,g2,g3,g4,hlr⟩:=(yz).rr5;clear hr5 hb5 hwz yz hlo;go_wp2_with fail;change bodyPost _ _ _ _ _ (setCells w5 (w.heap.size+1) 0 (VV vk vn vs D1 vids h1 D2 vls h2));rw[Hno.out];exact bodyPost_ret (uF Hb5.out rfl rfl) rfl ⟨_,rfl,Hr5.out,Hw5.out⟩
 ·have hgb:(gd != 0)=true:=by simpa using hg0
  rw[if_pos hg0] at Hr;have Hno:=Hr;clear hg0;have Hb5:=hidL (u2.setCells [O 0,O 0,E0,Z0,Z0] rfl);have Hw5:=hidL (below_setCells (g:=w.heap.size+1) (Nat.le_succ _) [O 0,O 0,E0,Z0,Z0] 0 _ hw4);obtain⟨r0,r1,r2,r3,r4,g0,g1,g2,g3,g4,hlr⟩:=(u2).rr5;go_wp2_with fail;change bodyPost _ _ _ _ _ (setCells w4 (w.heap.size+1) 0 [O 0,O 0,E0,Z0,Z0]);rw[Hno.out];exact bodyPost_ret (uF Hb5.out rfl rfl) rfl ⟨_,rfl,aA.zero,Hw5.out⟩
attribute [local go_sem ↓] Go.wp_at_zero Go.wp_at_succ
def aej:Nat→aj→Prop
 | 0,_=>True
 | d+1,v=>v.ids.length=v.l.length∧∀ x∈v.l,aej d x
def jQ (b:av)(d:Nat)(fid fkind:Int)(ftype:ByteArray)(z:List (Int × aj)):List (Int × aj):=(z.filter fun p=>decide (p.1=fid)).map fun p=>(p.1,if fkind=5 then iy b d (typeOf b ftype) p.2 else p.2)
theorem DI (b:av)(d:Nat)(fid fkind:Int)(ftype:ByteArray)(z:List (Int × aj)):(jQ b d fid fkind ftype z).length≤z.length:=by
 unfold jQ;rw[List.length_map];exact List.length_filter_le _ _
theorem Yf (b:av)(d:Nat)(fid fkind:Int)(ftype:ByteArray){ids:List Int}{l:List aj}{j:Nat}(h1:j<ids.length)(h2:j<l.length) :
  jQ b d fid fkind ftype ((ids.zip l).take (j+1))=jQ b d fid fkind ftype ((ids.zip l).take j)++(if ids[j]=fid then [(ids[j],if fkind=5 then iy b d (typeOf b ftype) l[j] else l[j])] else []):=by
 unfold jQ;rw[List.take_succ_eq_append_getElem (by rw[List.length_zip];omega),List.filter_append,List.map_append]
 congr 1
 by_cases h:ids[j]=fid <;> simp[h]
theorem Cu {b:av}{d:Nat}{ids:List Int}{l:List aj}(hl:ids.length=l.length)(fid fkind frule:Int)(fname ftype:ByteArray) :
  jb b d ids l ⟨fid,fname,ftype,fkind,frule⟩=if (jQ b d fid fkind ftype (ids.zip l)).length=0∧frule=1 then [(fid,aL b 4 ⟨fid,fname,ftype,fkind,frule⟩)] else jQ b d fid fkind ftype (ids.zip l):=by
 have h:(jQ b d fid fkind ftype (ids.zip l)).length=0↔dV ids fid=false:=by
  unfold jQ;rw[List.length_map,←Bool.not_eq_true];have:=vM (z:=ids.zip l) (i:=fid);rw[zip_fst _ _ hl] at this;rw[this,List.length_eq_zero_iff];exact⟨fun h h'=>h' h,fun h=>Classical.byContradiction h⟩
 unfold jb
 by_cases h1:dV ids fid=false∧frule=1
 ·rw[if_pos h1,if_pos ⟨h.2 h1.1,h1.2⟩]
 ·rw[if_neg h1,if_neg (fun h2=>h1 ⟨h.1 h2.1,h2.2⟩)];rfl
def kv (b:av)(d:Nat)(t:ax)(ids:List Int)(l:List aj)(n:Nat):List (Int × aj):=(t.fields.take n).flatMap (jb b d ids l)
theorem DL {b:av}{d:Nat}{t:ax}{ids:List Int}{l:List aj}{n:Nat}(h:n<t.fields.length):kv b d t ids l (n+1)=kv b d t ids l n++jb b d ids l t.fields[n]:=by
 unfold kv;rw[List.take_succ_eq_append_getElem h,List.flatMap_append];simp
theorem Tm {b:av}{d:Nat}{ids:List Int}{l:List aj}(hl:ids.length=l.length)(f:ay):(jb b d ids l f).length≤1+ids.length:=by
 obtain⟨a,b',c,d',e⟩:=f;rw[Cu hl];have:=DI b d a d' c (ids.zip l);rw[List.length_zip] at this;split <;> simp <;> omega
theorem Ir {b:av}{d:Nat}{t:ax}{ids:List Int}{l:List aj}(hl:ids.length=l.length):∀ n,n≤t.fields.length→(kv b d t ids l n).length≤n*(1+ids.length)
 | 0,_=>by simp[kv]
 | n+1,h=>by
  rw[DL (by omega),List.length_append];have:=Ir (b:=b) (d:=d) (t:=t) hl n (by omega);have:=Tm (b:=b) (d:=d) hl t.fields[n];rw[Nat.add_mul];omega
theorem GU:∀ l:List aj,l.length≤cO l
 | []=>by simp
 | x::l=>by
  rw[cO,List.length_cons];have:=QZ x;have:=GU l;omega
theorem aaZ {w a b:World}(h1:Below w.heap.size w a)(h2:Below w.heap.size w b)(hs:a.heap.size≤b.heap.size):az (Old w) a b:=⟨hs,fun g hg _=>(h2.block g hg).trans (h1.block g hg).symm⟩
theorem OA {W:World}{a:Act}{g:Nat}{c0 c1 c2 c3 c4:Value}(hb:Box W g 65 [c0,c1,c2,c3,c4])(h4:a.tmps.getD 6 undef=.pointer (some ⟨g,0,none⟩)) :
  (results f86 a.tmps).run prog W=.ok (.agg #[c0,c1,c2,c3,c4]) W:=by
 obtain⟨e0,e1,e2,e3,e4⟩:=hb.five;simp only[Array.getD_eq_getD_getElem?] at h4;simp[results,results86,go_sem,h4,e0,e1,e2,e3,e4]
def acV (S:Nat→Prop)(vb:Value)(b:av)(d:Nat):Prop:=∀ (S':Nat→Prop) (name:ByteArray) (cs:List Value) (v:aj) (w:World),aD v≤d→RSl 5 96 ah S w [vb] b→aA S' w cs v→Words w→dW b name=false→aej d v→aW v≤400 →
  Calls prog 86 #[.agg #[vb],.string name,.agg cs.toArray] w (UY S' w (iy b d (typeOf b name) v))
theorem agy (S:Nat→Prop)(vb:Value)(b:av)(hg:aB b=0)(hB:aS b)(d:Nat)(IH0:acV S vb b d):acV S vb b (d+1):=by
 rintro S' name cs ⟨kind,nn,s,ids,l⟩ w hd hb0 hr hW hno hev hcn;obtain⟨A,cap,rfl,-,-⟩:=hb0.form;obtain⟨I1,d1,I2,d2,rfl,hri,hrl⟩:=hr.parts;obtain⟨ty,htf,hty,htm,-,hte⟩:=gK hno;have hm:=bq hg htm hte;have h5:ty.fields.length≤5:=hm.1;have hll:ids.length=l.length:=hev.1;have hlen400:l.length≤400:=by
  have h1:=hcn;rw[aW] at h1;have:=GU l;omega
 have HB:=hidL hb0;have HBo:=hidL ((RSl.fair ah.fair).old hb0);have HI:=hidL hri;have HL:=hidL hrl;have HM:=hidL hm;have HG:=hidL hg;have HW:=hidL hW;have Hll:=hidL hll;have Hev:=hidL hev.2;have Hno:=hidL hno;have HBk:=hidL hB;have IH:=hidL IH0;have Hd:=hidL (fun x (h:x∈l)=>(show aD x≤d from by have:=gG h;rw[aD] at hd;omega));have Hc:=hidL (fun x (h:x∈l)=>(show aW x≤400 from by have:=vJ h;rw[aW] at hcn;omega));have hlen:∀ n,n≤ty.fields.length→(kv b d ty ids l n).length≤2005:=fun n hn=>by
  have:=Ir (b:=b) (d:=d) (t:=ty) hll n hn;have:n*(1+ids.length)≤5*401:=Nat.mul_le_mul (by omega) (by omega);omega
 have HLen:=hidL hlen;have Hpv:Hid (iy b (d+1) (typeOf b name) (.mk kind nn s ids l)=vI ((kv b d ty ids l ty.fields.length).map (·.1)) ((kv b d ty ids l ty.fields.length).map (·.2))):=by
  show _=_;rw[hty,iy];unfold kv;rw[List.take_length];rfl
 have Hty:=hidL hty;have HTf:Hid ((aM b name).getD .zero=ty):=by show _=_;rw[htf];rfl
 obtain⟨r,hrr⟩:=exE (iy b (d+1) (typeOf b name) (.mk kind nn s ids l));rw[←hrr] at Hpv ⊢;obtain⟨x1,x2,x3,x4⟩:=kW w [.slice A b.length cap] (VV kind nn s I1 ids d1 I2 l d2) [O 0,O 0,E0,Z0,Z0] 38 65 65;clear hb0 hr hri hrl hW hno hev hcn htf hty htm hte hm hll hg hd hlen hrr IH0;have z1:=x1.cell 0;have l1:=x1.lt;go_enter func86,ntmps86;go_wp2_with fail;refine(gH (Old w) _ b name _ ((RSl.fair ah.fair).below HBo.out x4)).mono ?_;rintro e w1 ⟨cs3,rfl,hr3,hb1⟩;rw[HTf.out] at hr3;replace hr3:=ah.fair.below hr3 hb1;obtain⟨A1,k1,A2,k2,A3,k3,rfl,hf,-,-⟩:=hr3.parts;have hw1:=aa x4 hb1 x4.size;have y1:=x1.below hb1 x1.lt;have y2:=x2.below hb1 x2.lt;have y3:=x3.below hb1 x3.lt;have hsz:w.heap.size+1+1<w1.heap.size:=y3.lt;have HF:=hidL hf;have Hw1:=hidL hw1;clear hr3 hf x1 x2 x3 x4 z1 l1 hb1;go_wp2_with fail;go_loopw [28] (fun i wr=>∃ (n:Nat) (vi vl:Value),i=O n∧n≤ty.fields.length∧cZ (fun y=>w1.heap.size+1+1≤y∨(S' y∧y<w.heap.size)) (w1.heap.size+1+1) wr (w1.heap.size+1) vi vl ((kv b d ty ids l n).map (·.1)) ((kv b d ty ids l n).map (·.2)) ∧
   Box wr (w1.heap.size+1) 65 [O 2,O 0,E0,vi,vl]∧(Box wr (w.heap.size+1+1) 65 [O 0,O 0,E0,Z0,Z0]∧Box wr (w.heap.size+1) 65 (VV kind nn s I1 ids d1 I2 l d2)∧Box wr w.heap.size 38 [.slice A b.length cap])∧Below w.heap.size w wr) (fun i _=>ty.fields.length-(intOf i).toNat)
 case atStart =>
  have x5:=hw1.alloc hw1.size (.cells (TT ty A1 k1 A2 k2 A3 k3).toArray 53);have x6:Box ((w1.alloc (.cells (TT ty A1 k1 A2 k2 A3 k3).toArray 53)).alloc (.cells #[O 2,O 0,E0,Z0,Z0] 65)) (w1.heap.size+1) 65 [O 2,O 0,E0,Z0,Z0]:=by
   have:=Box.Cq x5 65 [O 2,O 0,E0,Z0,Z0];simpa using this
  exact⟨0,Z0,Z0,rfl,Nat.zero_le _,by simpa[kv] using cZ.new _ _ _ _ (Nat.lt_succ_self _) (by simp),x6,⟨(y3.alloc _).alloc _,(y2.alloc _).alloc _,(y1.alloc _).alloc _⟩,x5.alloc x5.size _⟩
 case round =>
  obtain⟨n,vi,vl,rfl,hn,hro,zG,⟨zR,zV,zB⟩,hb⟩:=hrel;clear y1 y2 y3 hw1
  by_cases hlt:n<ty.fields.length
  ·--[RND
   obtain⟨g,o,rfl,hS0,hgw⟩:=HF.out.base (by omega);have hc:=(HF.out.flat (enc:=aI) hlt).keep (aaZ Hw1.out hb (by have:=hro.hb;go_light;omega)) hS0;have hfp:iC b ty.fields[n]:=bC HM.out (List.getElem_mem hlt);have hfo:aC ty ty.fields[n].id=some ty.fields[n]:=jB HM.out (List.getElem_mem hlt);have hsucc:=DL (b:=b) (d:=d) (t:=ty) (ids:=ids) (l:=l) hlt;have hl1:=HLen.out n (by omega);have hl2:=HLen.out (n+1) (by omega);obtain⟨f0,hxe⟩:=exE (ty.fields[n]);rw[←hxe] at hc hfp hsucc hfo;obtain⟨fid,fname,ftype,fkind,frule⟩:=f0;dsimp only at hfo;have q0:=hc.a0 rfl;have q1:=hc.at_ 1 rfl;have q2:=hc.at_ 2 rfl;have q3:=hc.at_ 3 rfl;have q4:=hc.at_ 4 rfl;have hgl:g<wr.heap.size:=Nat.lt_of_lt_of_le hgw (by have:=hro.hb;go_light;omega);obtain⟨P0,hP0⟩:=exE (kv b d ty ids l n);rw[←hP0] at hro hl1 hsucc;rw[Cu Hll.out] at hsucc;have Hsucc:=hidL hsucc;have Hl2:=hidL hl2;have Hfp:=hidL hfp;have Hfo:=hidL hfo;have hlsel:=DI b d fid fkind ftype (ids.zip l);rw[List.length_zip] at hlsel;have hsl:∀ j,(jQ b d fid fkind ftype ((ids.zip l).take j)).length≤400:=fun j=>by
    have:=DI b d fid fkind ftype ((ids.zip l).take j);rw[List.length_take,List.length_zip] at this;omega
   have Hsl:=hidL hsl;clear hc hxe hfp hfo hsucc hP0 hl2 hsl;have hw:=hb.alloc hb.size (.cells (FF fid fname ftype fkind frule).toArray 55);have hR:=hro.alloc (.cells (FF fid fname ftype fkind frule).toArray 55);have zX:Box (wr.alloc (.cells (FF fid fname ftype fkind frule).toArray 55)) wr.heap.size 55 (FF fid fname ftype fkind frule):=Box.new wr _ _;replace zG:=zG.alloc (.cells (FF fid fname ftype fkind frule).toArray 55);replace zR:=zR.alloc (.cells (FF fid fname ftype fkind frule).toArray 55);replace zV:=zV.alloc (.cells (FF fid fname ftype fkind frule).toArray 55);replace zB:=zB.alloc (.cells (FF fid fname ftype fkind frule).toArray 55);have hXG:(w1.heap.size+1)<wr.heap.size:=by have:=hro.hb;go_light;omega
   clear hro hb;have v3:(wr.alloc (.cells (FF fid fname ftype fkind frule).toArray 55)).cell? ⟨w.heap.size+1,3,none⟩=some (.slice I1 ids.length d1):=zV.cell 3;have hlv:=zV.lt;go_wp2_with fail;clear q0 q1 q2 q3 q4 v3 hlv;generalize hWW:wr.alloc (.cells (FF fid fname ftype fkind frule).toArray 55)=W0 at *;have hXl:wr.heap.size<W0.heap.size:=zX.lt;generalize hXX:wr.heap.size=X at *;clear hWW hXX;go_loopw [12,35] (fun c i wi=>∃ (j:Nat) (vi vl:Value),c=O ((jQ b d fid fkind ftype ((ids.zip l).take j)).length:Nat)∧i=O j∧j≤ids.length∧cZ (fun y=>w1.heap.size+1+1≤y∨(S' y∧y<w.heap.size)) (w1.heap.size+1+1) wi (w1.heap.size+1) vi vl ((P0++jQ b d fid fkind ftype ((ids.zip l).take j)).map (·.1)) ((P0++jQ b d fid fkind ftype ((ids.zip l).take j)).map (·.2)) ∧
    Box wi (w1.heap.size+1) 65 [O 2,O 0,E0,vi,vl]∧(Box wi (w.heap.size+1+1) 65 [O 0,O 0,E0,Z0,Z0]∧Box wi (w.heap.size+1) 65 (VV kind nn s I1 ids d1 I2 l d2)∧Box wi w.heap.size 38 [.slice A b.length cap])∧Box wi X 55 (FF fid fname ftype fkind frule)∧Below w.heap.size w wi) (fun _ i _=>ids.length-(intOf i).toNat)
   case atStart=>exact⟨0,_,_,by simp[jQ],rfl,Nat.zero_le _,by simpa[jQ] using hR,zG,⟨zR,zV,zB⟩,zX,hw⟩
   case round =>
    clear hR zG zR zV zB zX hw;obtain⟨j,vi,vl,rfl,rfl,hj,hR,zG,⟨zR,zV,zB⟩,zX,hw⟩:=hrel
    by_cases hjl:j<ids.length
    ·--[ONE
     have hjk:j<l.length:=by have:=Hll.out;omega
     obtain⟨ig,io,rfl,hSi,hgi⟩:=HI.out.base (by omega);obtain⟨lg,lo,rfl,hSl,hlgw⟩:=HL.out.base (by omega);have hci:=(HI.out.flat (enc:=fun x:Int=>[O x]) hjl).keep (az.of_below hw) hSi;obtain⟨es,_,hrx,hlies⟩:=HL.out.lies hjk;have hsel:=Yf b d fid fkind ftype hjl hjk;have hxm:=List.getElem_mem hjk;obtain⟨idj,hid⟩:=exE (ids[j]);obtain⟨x,hx⟩:=exE (l[j]);rw[←hid] at hci hsel;rw[←hx] at hrx hsel hxm;have hdx:=Hd.out x hxm;have hcx:=Hc.out x hxm;have hex:=Hev.out x hxm;obtain⟨xk,xn,xs,xi,xl⟩:=x;obtain⟨D1,e1,D2,e2,rfl,_,_⟩:=hrx.parts;have HXw:=hidL (aA.fair.mono hrx (T:=fun y=>S' y∧y<w.heap.size) (fun y hy hl=>⟨hy,hl⟩));have hlk:=hlies.keep (az.of_below hw) hSl;obtain⟨Sj,hSj⟩:=exE (jQ b d fid fkind ftype ((ids.zip l).take j));have hS2:=Hsl.out j;rw[←hSj] at hR hsel hS2;rw[←hSj];have q0:LL wr ig (io+j) (O idj):=by have:=hci.at_ 0 rfl;simpa using this
     have hgil:ig<wr.heap.size:=Nat.lt_of_lt_of_le hgi hw.size;have c0:=zX.c 0 rfl;have c3:=zX.c 3 rfl;have hlX:=zX.lt;clear hci hrx hlies hid hx hSj hxm
     by_cases heq:idj=fid
     ·--[EQ
      subst heq;rw[if_pos rfl] at hsel;have Hsel:=hidL hsel;have t0:=hlk.a0 rfl;have t1:=hlk.at_ 1 rfl;have t2:=hlk.at_ 2 rfl;have t3:=hlk.at_ 3 rfl;have t4:=hlk.at_ 4 rfl;have hgl2:lg<wr.heap.size:=Nat.lt_of_lt_of_le hlgw hw.size;have v4:LL wr (w.heap.size+1) 4 (.slice (some ⟨lg,lo,none⟩) l.length d2):=zV.cell 4;have hlv:=zV.lt;have zQ:Box (wr.alloc (.cells (VV xk xn xs D1 xi e1 D2 xl e2).toArray 65)) wr.heap.size 65 (VV xk xn xs D1 xi e1 D2 xl e2):=Box.new wr _ _;have hnv:vl.ownBlock≠some wr.heap.size:=fun e=>by have:=(hR.llt e).2;omega
      have hXB:w.heap.size+1+1<wr.heap.size:=zR.lt;have hGl:=zG.lt;have hXQ:X<wr.heap.size:=zX.lt;have hR2:=hR.alloc (.cells (VV xk xn xs D1 xi e1 D2 xl e2).toArray 65);have hRL:=hR.low.alloc (.cells (VV xk xn xs D1 xi e1 D2 xl e2).toArray 65);replace zG:=zG.alloc (.cells (VV xk xn xs D1 xi e1 D2 xl e2).toArray 65);replace zR:=zR.alloc (.cells (VV xk xn xs D1 xi e1 D2 xl e2).toArray 65);replace zV:=zV.alloc (.cells (VV xk xn xs D1 xi e1 D2 xl e2).toArray 65);replace zB:=zB.alloc (.cells (VV xk xn xs D1 xi e1 D2 xl e2).toArray 65);replace zX:=zX.alloc (.cells (VV xk xn xs D1 xi e1 D2 xl e2).toArray 65);replace hw:=hw.alloc hw.size (.cells (VV xk xn xs D1 xi e1 D2 xl e2).toArray 65);have hapx:aA (fun y=>Apart (fun y=>w1.heap.size+1+1≤y∨(S' y∧y<w.heap.size)) (w1.heap.size+1) vi vl y∧y<(wr.alloc (.cells (VV xk xn xs D1 xi e1 D2 xl e2).toArray 65)).heap.size) (wr.alloc (.cells (VV xk xn xs D1 xi e1 D2 xl e2).toArray 65)) (VV xk xn xs D1 xi e1 D2 xl e2) (.mk xk xn xs xi xl):=hR.apart (w:=wr.alloc (.cells (VV xk xn xs D1 xi e1 D2 xl e2).toArray 65)) (aA.fair.keep HXw.out (az.of_below hw)) (fun y hy _=>⟨.inr ⟨by go_light;have:=hy.2;omega,by go_light;have:=hy.2;omega⟩,.inr hy⟩);have Hapx:=hidL hapx;have hQb:=hR.hb;have hnvi:vi.ownBlock≠some wr.heap.size:=fun e=>by have:=(hR.ilt e).2;omega
      clear hsel hapx hlk;go_upto_if 51 with fail;clear q0 c0 c3 t0 t1 t2 t3 t4 v4 hlv hgl2 hgil hlX;replace hR:=hR2;generalize wr.alloc (.cells (VV xk xn xs D1 xi e1 D2 xl e2).toArray 65)=V at zQ zG zR zV zB zX hw hR hR2 hRL Hapx ⊢;have hQl:=zQ.lt;generalize wr.heap.size=Q at zQ hnv hXB hGl hQb hQl hnvi hRL hXQ ⊢;clear hR2;go_cut [] from 51 to 56 (fun wx=>∃ (zk zn:Int) (zs:ByteArray) (zi:List Int) (zl:List aj) (Z1:Option Addr) (y1:Nat) (Z2:Option Addr) (y2:Nat),Hid (aj.mk zk zn zs zi zl=if fkind=5 then iy b d (typeOf b ftype) (.mk xk xn xs xi xl) else .mk xk xn xs xi xl)∧aA (fun y=>Apart (fun y=>w1.heap.size+1+1≤y∨(S' y∧y<w.heap.size)) (w1.heap.size+1) vi vl y∧y<wx.heap.size) wx (VV zk zn zs Z1 zi y1 Z2 zl y2) (.mk zk zn zs zi zl)∧cZ (fun y=>w1.heap.size+1+1≤y∨(S' y∧y<w.heap.size)) (w1.heap.size+1+1) wx (w1.heap.size+1) vi vl ((P0++Sj).map (·.1)) ((P0++Sj).map (·.2))∧Box wx (w1.heap.size+1) 65 [O 2,O 0,E0,vi,vl]∧(Box wx (w.heap.size+1+1) 65 [O 0,O 0,E0,Z0,Z0]∧Box wx (w.heap.size+1) 65 (VV kind nn s (some ⟨ig,io,none⟩) ids d1 (some ⟨lg,lo,none⟩) l d2)∧Box wx w.heap.size 38 [.slice A b.length cap])∧Box wx X 55 (FF idj fname ftype fkind frule)∧Box wx Q 65 (VV zk zn zs Z1 zi y1 Z2 zl y2)∧Below w.heap.size w wx)
      case first =>
       by_cases hk5:fkind=5
       ·--[F5
        have hkb:(fkind==5)=true:=by simpa using hk5
        have s0:LL V w.heap.size 0 (.slice A b.length cap):=zB.cell 0;have sl0:=zB.lt;have s2:LL V X 2 (.string ftype):=zX.cell 2;have slX:=zX.lt;obtain⟨u0,u1,u2,u3,u4⟩:=zQ.five;have hnone:dW b ftype=false:=by
         obtain⟨t2,e1,e2,_,_,e5,_⟩:=gZ HG.out Hfp.out hk5;unfold dW;rw[e1];simpa using e5
        have Hk5:=hidL hk5;have hcall:=IH.out (fun y=>S' y∧y<w.heap.size) ftype (VV xk xn xs D1 xi e1 D2 xl e2) (.mk xk xn xs xi xl) V hdx ((RSl.fair ah.fair).below HB.out hw) (aA.fair.keep HXw.out (az.of_below hw)) (HW.out.below hw) hnone hex hcx;obtain⟨⟨pk,pn,ps,pi,pl⟩,hpe⟩:∃ p,p=iy b d (typeOf b ftype) (.mk xk xn xs xi xl):=⟨_,rfl⟩;rw[←hpe] at hcall;have Hpe:=hidL hpe;have Hcall:=hidL hcall;clear hk5 hnone hcall hpe;go_wp2_with fail;refine Hcall.out.mono ?_;rintro e w5 ⟨cs5,rfl,hr5,hb5⟩;obtain⟨E1,f1,E2,f2,rfl,-,-⟩:=hr5.parts;have hnU:¬ Un (fun y=>S' y∧y<w.heap.size) V Q:=by
         rintro(h | h)
         ·have:=h.2;omega
         ·omega
        have hrel:Hid (aA (fun y=>Apart (fun y=>w1.heap.size+1+1≤y∨(S' y∧y<w.heap.size)) (w1.heap.size+1) vi vl y∧y<(setCells w5 Q 0 (VV pk pn ps E1 pi f1 E2 pl f2)).heap.size) (setCells w5 Q 0 (VV pk pn ps E1 pi f1 E2 pl f2)) (VV pk pn ps E1 pi f1 E2 pl f2) (.mk pk pn ps pi pl)):=hR.apart (aA.fair.keep hr5 (az.setCells hnU (VV pk pn ps E1 pi f1 E2 pl f2) 0 w5)) (fun y hy _=>by
         rcases hy with hy | hy
         ·exact⟨.inr ⟨by have:=hy.2;omega,by have:=hy.2;omega⟩,.inr hy⟩
         ·exact⟨.inl hy,.inl (by have:=hR.hb;omega)⟩)
        have zQ5:=zQ.below hb5 zQ.lt;have hrow:Hid (cZ (fun y=>w1.heap.size+1+1≤y∨(S' y∧y<w.heap.size)) (w1.heap.size+1+1) (setCells w5 Q 0 (VV pk pn ps E1 pi f1 E2 pl f2)) (w1.heap.size+1) vi vl ((P0++Sj).map (·.1)) ((P0++Sj).map (·.2))):=((hRL.below hb5).fq hnvi hnv (fun h=>absurd h.2 (Nat.lt_irrefl _)) (VV pk pn ps E1 pi f1 E2 pl f2) 0).up (fun y h=>h.1);have hbx:Hid (Box (setCells w5 Q 0 (VV pk pn ps E1 pi f1 E2 pl f2)) (w1.heap.size+1) 65 [O 2,O 0,E0,vi,vl]∧(Box (setCells w5 Q 0 (VV pk pn ps E1 pi f1 E2 pl f2)) (w.heap.size+1+1) 65 [O 0,O 0,E0,Z0,Z0]∧Box (setCells w5 Q 0 (VV pk pn ps E1 pi f1 E2 pl f2)) (w.heap.size+1) 65 (VV kind nn s (some ⟨ig,io,none⟩) ids d1 (some ⟨lg,lo,none⟩) l d2)∧Box (setCells w5 Q 0 (VV pk pn ps E1 pi f1 E2 pl f2)) w.heap.size 38 [.slice A b.length cap])∧Box (setCells w5 Q 0 (VV pk pn ps E1 pi f1 E2 pl f2)) X 55 (FF idj fname ftype fkind frule)∧Box (setCells w5 Q 0 (VV pk pn ps E1 pi f1 E2 pl f2)) Q 65 (VV pk pn ps E1 pi f1 E2 pl f2)∧Below w.heap.size w (setCells w5 Q 0 (VV pk pn ps E1 pi f1 E2 pl f2))) :=
         ⟨(zG.below hb5 zG.lt).fq (by omega) _ _,⟨(zR.below hb5 zR.lt).fq (by omega) _ _,(zV.below hb5 zV.lt).fq (by omega) _ _,(zB.below hb5 zB.lt).fq (by omega) _ _⟩,(zX.below hb5 zX.lt).fq (by omega) _ _,zQ5.setCells _ rfl,below_setCells (by omega) _ _ _ (aa hw hb5 hw.size)⟩
        have hall:∃ (zk zn:Int) (zs:ByteArray) (zi:List Int) (zl:List aj) (Z1:Option Addr) (y1:Nat) (Z2:Option Addr) (y2:Nat),Hid (aj.mk zk zn zs zi zl=if fkind=5 then iy b d (typeOf b ftype) (.mk xk xn xs xi xl) else .mk xk xn xs xi xl)∧aA (fun y=>Apart (fun y=>w1.heap.size+1+1≤y∨(S' y∧y<w.heap.size)) (w1.heap.size+1) vi vl y∧y<(setCells w5 Q 0 (VV pk pn ps E1 pi f1 E2 pl f2)).heap.size) (setCells w5 Q 0 (VV pk pn ps E1 pi f1 E2 pl f2)) (VV zk zn zs Z1 zi y1 Z2 zl y2) (.mk zk zn zs zi zl)∧cZ (fun y=>w1.heap.size+1+1≤y∨(S' y∧y<w.heap.size)) (w1.heap.size+1+1) (setCells w5 Q 0 (VV pk pn ps E1 pi f1 E2 pl f2)) (w1.heap.size+1) vi vl ((P0++Sj).map (·.1)) ((P0++Sj).map (·.2))∧Box (setCells w5 Q 0 (VV pk pn ps E1 pi f1 E2 pl f2)) (w1.heap.size+1) 65 [O 2,O 0,E0,vi,vl]∧(Box (setCells w5 Q 0 (VV pk pn ps E1 pi f1 E2 pl f2)) (w.heap.size+1+1) 65 [O 0,O 0,E0,Z0,Z0]∧Box (setCells w5 Q 0 (VV pk pn ps E1 pi f1 E2 pl f2)) (w.heap.size+1) 65 (VV kind nn s (some ⟨ig,io,none⟩) ids d1 (some ⟨lg,lo,none⟩) l d2)∧Box (setCells w5 Q 0 (VV pk pn ps E1 pi f1 E2 pl f2)) w.heap.size 38 [.slice A b.length cap])∧Box (setCells w5 Q 0 (VV pk pn ps E1 pi f1 E2 pl f2)) X 55 (FF idj fname ftype fkind frule)∧Box (setCells w5 Q 0 (VV pk pn ps E1 pi f1 E2 pl f2)) Q 65 (VV zk zn zs Z1 zi y1 Z2 zl y2)∧Below w.heap.size w (setCells w5 Q 0 (VV pk pn ps E1 pi f1 E2 pl f2)):=⟨pk,pn,ps,pi,pl,E1,f1,E2,f2,(by show _=_;rw[if_pos Hk5.out,Hpe.out]),hrel.out,hrow.out,hbx.out.1,hbx.out.2.1,hbx.out.2.2.1,hbx.out.2.2.2.1,hbx.out.2.2.2.2⟩;have Hall:=hidL hall;obtain⟨r0,r1,r2,r3,r4,g0,g1,g2,g3,g4,hlr⟩:=(zQ5).rr5;clear s0 sl0 s2 slX u0 u1 u2 u3 u4 hr5 hb5 Hcall hnU zG zR zV zB zX zQ zQ5 hR hRL hw hall hrel hrow hbx;go_wp2_with fail;change Met _ _ (setCells w5 Q 0 (VV pk pn ps E1 pi f1 E2 pl f2));generalize setCells w5 Q 0 _=W6 at Hall ⊢;go_meet
        case rel =>
         exact Hall.out
       ·have hkb:(fkind==5)=false:=by simpa using hk5
        have Hk5:=hidL hk5;clear hk5;go_wp2;go_meet
        case rel=>exact⟨xk,xn,xs,xi,xl,D1,e1,D2,e2,(by show _=_;rw[if_neg Hk5.out]),Hapx.out,hR,zG,⟨zR,zV,zB⟩,zX,zQ,hw⟩
      case rest =>
       clear hR zG zR zV zB zX zQ hw hRL Hapx;obtain⟨pk,pn,ps,pi,pl,E1,f1,E2,f2,Hpe,hrx,hR,zG,⟨zR,zV,zB⟩,zX,zQ,hw⟩:=hcut;have Hsel2:Hid (jQ b d idj fkind ftype ((ids.zip l).take (j+1))=Sj++[(idj,aj.mk pk pn ps pi pl)]):=by show _=_;rw[Hsel.out,Hpe.out]
       have Hln:Hid ((jQ b d idj fkind ftype ((ids.zip l).take (j+1))).length=Sj.length+1):=by show _=_;rw[Hsel2.out];simp
       have HXr:=hidL hrx;have hn1:∀ k,vi.ownBlock=some k→¬ (fun y=>Apart (fun y=>w1.heap.size+1+1≤y∨(S' y∧y<w.heap.size)) (w1.heap.size+1) vi vl y∧y<wc.heap.size) k:=fun k hk h=>h.1.2.1 hk
       have hnQ:=hnv;have hdr:wc.drew.heap.size=wc.heap.size:=rfl;clear hrx Hsel Hpe;go_wp2_with fail;have hS:=trivial;have HSK:Hid (∀ W',Box W' (w1.heap.size+1) 65 [O 2,O 0,E0,vi,vl]→Box W' X 55 (FF idj fname ftype fkind frule)→Box W' Q 65 (VV pk pn ps E1 pi f1 E2 pl f2)→(fun W'=>(LL W' (w1.heap.size+1) 3 vi∧LL W' (w1.heap.size+1) 4 vl)∧LL W' X 0 (O idj)∧(LL W' Q 0 (O pk)∧LL W' Q 1 (O pn)∧LL W' Q 2 (.string ps)∧LL W' Q 3 (.slice E1 pi.length f1)∧LL W' Q 4 (.slice E2 pl.length f2))) W'):=fun W' h1 h2 h3=>⟨⟨h1.cell 3,h1.cell 4⟩,h2.cell 0,h3.five⟩
       replace hR:=hR.drew;replace zG:=zG.drew;replace zR:=zR.drew;replace zV:=zV.drew;replace zB:=zB.drew;replace zX:=zX.drew
       (first | (replace zQ:=zQ.drew) | (replace zQ:=zQ.grown hg5 hnQ))
       replace hw:=au hw;replace hS:=HSK.out _ zG zX zQ;refine aY (fun W'=>(LL W' (w1.heap.size+1) 3 vi∧LL W' (w1.heap.size+1) 4 vl)∧LL W' X 0 (O idj)∧(LL W' Q 0 (O pk)∧LL W' Q 1 (O pn)∧LL W' Q 2 (.string ps)∧LL W' Q 3 (.slice E1 pi.length f1)∧LL W' Q 4 (.slice E2 pl.length f2))) 11 (by kernel_rfl) ?_;apply tkL 0 hS;apply tkL 1 hS;apply tkL 2 hS;apply tkL 5 hS;apply tkL 6 hS;apply tkL 7 hS
       try simp only[pu]
       refine jc (i:=3) (j:=8) rfl rfl (by kernel_rfl) (fun K hK=>?_) (fun K hK=>?_)
       rotate_left
       go_simp;have hZ2:=Box.Cq hw 65 (VV pk pn ps E1 pi f1 E2 pl f2)
       try simp only[World.size_alloc] at hZ2
       replace hR:=hR.alloc (.cells (VV pk pn ps E1 pi f1 E2 pl f2).toArray 65);replace zG:=zG.alloc (.cells (VV pk pn ps E1 pi f1 E2 pl f2).toArray 65);replace zR:=zR.alloc (.cells (VV pk pn ps E1 pi f1 E2 pl f2).toArray 65);replace zV:=zV.alloc (.cells (VV pk pn ps E1 pi f1 E2 pl f2).toArray 65);replace zB:=zB.alloc (.cells (VV pk pn ps E1 pi f1 E2 pl f2).toArray 65);replace zX:=zX.alloc (.cells (VV pk pn ps E1 pi f1 E2 pl f2).toArray 65)
       (first | (replace zQ:=zQ.alloc (.cells (VV pk pn ps E1 pi f1 E2 pl f2).toArray 65)) | (replace zQ:=zQ.grown hg5 hnQ))
       (first | (replace hZ1:=hZ1.alloc (.cells (VV pk pn ps E1 pi f1 E2 pl f2).toArray 65)) | skip)
       replace hw:=hw.alloc hw.size (.cells (VV pk pn ps E1 pi f1 E2 pl f2).toArray 65);replace hS:=HSK.out _ zG zX zQ;refine hK.out _ _ (fun _=>hS) ?_
       try simp only[pu]
       refine anq 3 (fun K hK=>?_)
       all_goals
        go_simp;have hZ1:=Box.Cq hw 3 [O idj]
        try simp only[World.size_alloc] at hZ1
        replace hR:=hR.alloc (.cells #[O idj] 3);replace zG:=zG.alloc (.cells #[O idj] 3);replace zR:=zR.alloc (.cells #[O idj] 3);replace zV:=zV.alloc (.cells #[O idj] 3);replace zB:=zB.alloc (.cells #[O idj] 3);replace zX:=zX.alloc (.cells #[O idj] 3)
        (first | (replace zQ:=zQ.alloc (.cells #[O idj] 3)) | (replace zQ:=zQ.grown hg5 hnQ))
        (first | (replace hZ2:=hZ2.alloc (.cells #[O idj] 3)) | skip)
        replace hw:=hw.alloc hw.size (.cells #[O idj] 3);replace hS:=HSK.out _ zG zX zQ;refine hK.out _ _ (fun _=>hS) ?_
        try simp only[pu]
       refine anq 4 (fun K hK=>?_)
       rotate_left
       refine jc (i:=4) (j:=8) rfl rfl (by kernel_rfl) (fun K hK=>?_) (fun K hK=>?_)
       rotate_left
       go_simp;have hZ2:=Box.Cq hw 65 (VV pk pn ps E1 pi f1 E2 pl f2)
       try simp only[World.size_alloc] at hZ2
       replace hR:=hR.alloc (.cells (VV pk pn ps E1 pi f1 E2 pl f2).toArray 65);replace zG:=zG.alloc (.cells (VV pk pn ps E1 pi f1 E2 pl f2).toArray 65);replace zR:=zR.alloc (.cells (VV pk pn ps E1 pi f1 E2 pl f2).toArray 65);replace zV:=zV.alloc (.cells (VV pk pn ps E1 pi f1 E2 pl f2).toArray 65);replace zB:=zB.alloc (.cells (VV pk pn ps E1 pi f1 E2 pl f2).toArray 65);replace zX:=zX.alloc (.cells (VV pk pn ps E1 pi f1 E2 pl f2).toArray 65)
       (first | (replace zQ:=zQ.alloc (.cells (VV pk pn ps E1 pi f1 E2 pl f2).toArray 65)) | (replace zQ:=zQ.grown hg5 hnQ))
       (first | (replace hZ1:=hZ1.alloc (.cells (VV pk pn ps E1 pi f1 E2 pl f2).toArray 65)) | skip)
       replace hw:=hw.alloc hw.size (.cells (VV pk pn ps E1 pi f1 E2 pl f2).toArray 65);replace hS:=HSK.out _ zG zX zQ;refine hK.out _ _ (fun _=>hS) ?_
       try simp only[pu]
       refine anq 4 (fun K hK=>?_)
       all_goals
        refine dM _ rfl (.tmp 58) (.tmp 60) rfl qh aQ.fair rfl rfl hR.ids (Src.one (es:=[O idj]) (y:=idj) rfl (gI.bK rfl) rfl hZ1.lies) (NoT.lt _) (by go_light;simp;omega) hR.hb ?_;intro v1 wk1 ho1 hg1 hv1;have hR':=hR.Fh ho1 hg1 hv1;replace zG:=zG.fU hR.ids (by first | exact .inl (by go_light;omega) | exact .inr (by decide)) hg1;replace zR:=zR.fU hR.ids (by first | exact .inl (by go_light;omega) | exact .inr (by decide)) hg1;replace zV:=zV.fU hR.ids (by first | exact .inl (by go_light;omega) | exact .inr (by decide)) hg1;replace zB:=zB.fU hR.ids (by first | exact .inl (by go_light;omega) | exact .inr (by decide)) hg1;replace zX:=zX.fU hR.ids (by first | exact .inl (by go_light;omega) | exact .inr (by decide)) hg1
        (first | (replace zQ:=zQ.fU hR.ids (by first | exact .inl (by go_light;omega) | exact .inr (by decide)) hg1) | (replace zQ:=zQ.grown hg5 hnQ))
        (first | (replace hZ2:=hZ2.fU hR.ids (.inr (by decide)) hg1) | skip)
        replace hw:=below_grown hw hg1 hw.size (fun g' h=>by go_light;have:=(hR.ilt h).1;omega);replace hR:=hR';clear hR';replace hS:=HSK.out _ zG zX zQ;refine hK.out _ _ (fun _=>hS) ?_
        try simp only[pu]
        apply tkL 10 hS
        try simp only[pu]
       rotate_right
       refine anq 8 (fun K hK=>?_);go_simp;have hZ2:=Box.Cq hw 65 (VV pk pn ps E1 pi f1 E2 pl f2)
       try simp only[World.size_alloc] at hZ2
       replace hR:=hR.alloc (.cells (VV pk pn ps E1 pi f1 E2 pl f2).toArray 65);replace zG:=zG.alloc (.cells (VV pk pn ps E1 pi f1 E2 pl f2).toArray 65);replace zR:=zR.alloc (.cells (VV pk pn ps E1 pi f1 E2 pl f2).toArray 65);replace zV:=zV.alloc (.cells (VV pk pn ps E1 pi f1 E2 pl f2).toArray 65);replace zB:=zB.alloc (.cells (VV pk pn ps E1 pi f1 E2 pl f2).toArray 65);replace zX:=zX.alloc (.cells (VV pk pn ps E1 pi f1 E2 pl f2).toArray 65)
       (first | (replace zQ:=zQ.alloc (.cells (VV pk pn ps E1 pi f1 E2 pl f2).toArray 65)) | (replace zQ:=zQ.grown hg5 hnQ))
       (first | (replace hZ1:=hZ1.alloc (.cells (VV pk pn ps E1 pi f1 E2 pl f2).toArray 65)) | skip)
       replace hw:=hw.alloc hw.size (.cells (VV pk pn ps E1 pi f1 E2 pl f2).toArray 65);replace hS:=HSK.out _ zG zX zQ;refine hK.out _ _ (fun _=>hS) ?_
       try simp only[pu]
       all_goals
        refine anq 9 (fun K hK=>?_);refine dM _ rfl (.tmp 63) (.tmp 65) rfl nJ aA.fair rfl rfl hR.Tp (Src.one (es:=(VV pk pn ps E1 pi f1 E2 pl f2)) (y:=aj.mk pk pn ps pi pl) rfl (gI.bK rfl) (hR.QV (aA.fair.keep HXr.out (by first | exact(((az.drew _ _).trans (az.alloc _ _ _)).trans (az.bH hg1 hn1)).trans (az.alloc _ _ _) | exact(((az.drew _ _).trans (az.alloc _ _ _)).trans (az.alloc _ _ _)).trans (az.bH hg1 hn1))) ?ap) hZ2.lies) (fun _ h=>h.2) (by go_light;simp;omega) hR.hb ?_
        case ap =>
         rintro y ⟨hy1,hy2⟩;refine⟨hy1.1,fun e=>?_,hy1.2.2.1,hy1.2.2.2⟩;rcases hv1 with h | h
         ·exact hy1.2.1 (h ▸ e)
         ·rw[h] at e;have e':=Option.some.inj e;simp at e';go_light;omega
        intro v5 w5 ho5 hg5 hv5;have hR':=hR.zA ho5 hg5 hv5;replace zG:=zG.fU hR.l (by first | exact .inl (by go_light;omega) | exact .inr (by decide)) hg5;replace zR:=zR.fU hR.l (by first | exact .inl (by go_light;omega) | exact .inr (by decide)) hg5;replace zV:=zV.fU hR.l (by first | exact .inl (by go_light;omega) | exact .inr (by decide)) hg5;replace zB:=zB.fU hR.l (by first | exact .inl (by go_light;omega) | exact .inr (by decide)) hg5;replace zX:=zX.fU hR.l (by first | exact .inl (by go_light;omega) | exact .inr (by decide)) hg5
        (first | (replace zQ:=zQ.fU hR.l (by first | exact .inl (by go_light;omega) | exact .inr (by decide)) hg5) | (replace zQ:=zQ.grown hg5 hnQ))
        replace hw:=below_grown hw hg5 hw.size (fun g' h=>by go_light;have:=(hR.llt h).1;omega);replace hR:=hR';clear hR';replace hS:=HSK.out _ zG zX zQ;have fz3:=zG.frozen 3;have cz3:=zG.c 3 rfl;have fz4:=zG.frozen 4;have cz4:=zG.c 4 rfl;have lz:=zG.lt;obtain⟨R1,p1,rfl,_⟩:=hR.ids.form;obtain⟨R2,p2,rfl,_⟩:=hR.l.form;refine hK.out _ _ (fun _=>hS) ?_
        try simp only[pu]
        refine anq 11 (fun K hK=>?_);go_simp;refine hK.out _ _ nay ?_
        try simp only[pu]
        refine anq 12 (fun K hK=>?_);go_simp;refine hK.out _ _ nay ?_
        try simp only[pu]
        refine anq 13 (fun K hK=>?_);go_simp;refine hK.out _ _ nay ?_
        try simp only[pu]
        refine ani ?_ _;simp only[List.length_append,List.length_map,List.length_cons,List.length_nil,Nat.zero_add] at hR;replace hR:=(hR.setCell 3 (.slice R1 (P0.length+Sj.length+1) p1)).setCell 4 (.slice R2 (P0.length+Sj.length+1) p2);replace zG:=(zG.gB 3 (.slice R1 (P0.length+Sj.length+1) p1)).gB 4 (.slice R2 (P0.length+Sj.length+1) p2);simp only[List.set_cons_zero,List.set_cons_succ,List.length_append,List.length_map,List.length_cons,List.length_nil,Nat.zero_add] at zG;replace zR:=zR.far (p:=⟨(w1.heap.size+1),3,none⟩) (by first | (simp;done) | (simp;omega)) (.slice R1 (P0.length+Sj.length+1) p1);replace zV:=zV.far (p:=⟨(w1.heap.size+1),3,none⟩) (by first | (simp;done) | (simp;omega)) (.slice R1 (P0.length+Sj.length+1) p1);replace zB:=zB.far (p:=⟨(w1.heap.size+1),3,none⟩) (by first | (simp;done) | (simp;omega)) (.slice R1 (P0.length+Sj.length+1) p1);replace zX:=zX.far (p:=⟨(w1.heap.size+1),3,none⟩) (by first | (simp;done) | (simp;omega)) (.slice R1 (P0.length+Sj.length+1) p1);replace zR:=zR.far (p:=⟨(w1.heap.size+1),4,none⟩) (by first | (simp;done) | (simp;omega)) (.slice R2 (P0.length+Sj.length+1) p2);replace zV:=zV.far (p:=⟨(w1.heap.size+1),4,none⟩) (by first | (simp;done) | (simp;omega)) (.slice R2 (P0.length+Sj.length+1) p2);replace zB:=zB.far (p:=⟨(w1.heap.size+1),4,none⟩) (by first | (simp;done) | (simp;omega)) (.slice R2 (P0.length+Sj.length+1) p2);replace zX:=zX.far (p:=⟨(w1.heap.size+1),4,none⟩) (by first | (simp;done) | (simp;omega)) (.slice R2 (P0.length+Sj.length+1) p2);replace hw:=(hw.setCell (p:=⟨(w1.heap.size+1),3,none⟩) (by first | (simp;done) | (simp;omega)) (.slice R1 (P0.length+Sj.length+1) p1)).setCell (p:=⟨(w1.heap.size+1),4,none⟩) (by first | (simp;done) | (simp;omega)) (.slice R2 (P0.length+Sj.length+1) p2);clear hS fz3 cz3 fz4 cz4 lz hg5 hv5 ho5 hg1 hv1 ho1;go_wp2;go_roundw
        case rel=>exact⟨j+1,_,_,by rw[Hln.out];go_num,by go_num,by go_light;omega,by rw[Hsel2.out];simpa[Nat.add_assoc] using hR,zG,⟨zR,zV,zB⟩,zX,hw⟩
        case measure=>go_light;simp[intOf];omega
     ·--[NE
      rw[if_neg heq,List.append_nil] at hsel;have Hsel:=hidL hsel;have hne:(idj != fid)=true:=by simpa using heq
      clear heq hsel hlk;go_wp2;go_roundw
      case rel=>exact⟨j+1,vi,vl,by rw[Hsel.out],by go_num,by omega,by rw[Hsel.out];exact hR,zG,⟨zR,zV,zB⟩,zX,hw⟩
      case measure=>simp[intOf];omega
    ·--[IN
     have hfull:(ids.zip l).take j=ids.zip l:=List.take_of_length_le (by rw[List.length_zip];omega);have hsl:=Hsl.out j;rw[hfull] at hR hsl;rw[hfull];obtain⟨Sel,hSel⟩:=exE (jQ b d fid fkind ftype (ids.zip l));have Hst0:Hid (kv b d ty ids l (n+1)=P0++(if Sel.length=0∧frule=1 then [(fid,aL b 4 ⟨fid,fname,ftype,fkind,frule⟩)] else Sel)):=by show _=_;rw[hSel];exact Hsucc.out
     rw[←hSel] at hR hsl;rw[←hSel];have f4:LL wr X 4 (O frule):=zX.cell 4;have lX:=zX.lt;clear hfull hSel Hsucc Hsl hlsel
     by_cases hc0:Sel.length=0
     ·have hnil:Sel=[]:=List.eq_nil_of_length_eq_zero hc0;subst hnil;clear hc0 hsl
      by_cases hr1:frule=1
      ·--[L
       subst hr1;have Hst1:Hid (kv b d ty ids l (n+1)=P0++[(fid,aL b 4 ⟨fid,fname,ftype,fkind,1⟩)]):=Hst0.out;rw[List.append_nil] at hR;have s0:LL wr w.heap.size 0 (.slice A b.length cap):=zB.cell 0;have sl0:=zB.lt;have f0:LL wr X 0 (O fid):=zX.cell 0;have hcall:=Cn S _ b name fid wr ((RSl.fair ah.fair).below HB.out hw) (HW.out.below hw) HBk.out;have hlf:kQ b name fid=(aL b 4 ⟨fid,fname,ftype,fkind,1⟩,0):=by
        unfold kQ;rw[if_neg (fun h=>h HG.out),Hty.out,Hfo.out];rfl
       rw[hlf] at hcall;obtain⟨⟨pk,pn,ps,pi,pl⟩,hpe⟩:∃ p,p=aL b 4 ⟨fid,fname,ftype,fkind,1⟩:=⟨_,rfl⟩;rw[←hpe] at hcall Hst1;have Hcall:=hidL hcall;have Hst:=Hst1;clear hcall hlf hpe Hst0 Hst1;go_wp2_with fail;refine Hcall.out.mono ?_;rintro e w5 ⟨cs5,rfl,hr5,hb5⟩;dsimp only at hr5 ⊢;obtain⟨E1,f1,E2,f2,rfl,-,-⟩:=hr5.parts;have hap:=hR.apart (aA.fair.keep hr5 (az.alloc _ _ (.cells (VV pk pn ps E1 pi f1 E2 pl f2).toArray 65))) (fun y hy _=>⟨.inl hy,.inl (Nat.le_trans hR.hb hy)⟩);have hX5:=zX.below hb5 zX.lt;have zQ:Box (w5.alloc (.cells (VV pk pn ps E1 pi f1 E2 pl f2).toArray 65)) w5.heap.size 65 (VV pk pn ps E1 pi f1 E2 pl f2):=Box.new w5 _ _;have hnQ:vl.ownBlock≠some w5.heap.size:=fun e=>by have:=(hR.llt e).2;have:=hb5.size;omega
       replace hR:=(hR.below hb5).alloc (.cells (VV pk pn ps E1 pi f1 E2 pl f2).toArray 65);replace zG:=(zG.below hb5 zG.lt).alloc (.cells (VV pk pn ps E1 pi f1 E2 pl f2).toArray 65);replace zR:=(zR.below hb5 zR.lt).alloc (.cells (VV pk pn ps E1 pi f1 E2 pl f2).toArray 65);replace zV:=(zV.below hb5 zV.lt).alloc (.cells (VV pk pn ps E1 pi f1 E2 pl f2).toArray 65);replace zB:=(zB.below hb5 zB.lt).alloc (.cells (VV pk pn ps E1 pi f1 E2 pl f2).toArray 65);replace zX:=hX5.alloc (.cells (VV pk pn ps E1 pi f1 E2 pl f2).toArray 65);replace hw:=(aa hw hb5 hw.size).alloc (aa hw hb5 hw.size).size (.cells (VV pk pn ps E1 pi f1 E2 pl f2).toArray 65);clear s0 sl0 f0 f4 lX hr5 hb5 Hcall hX5;go_wp2_with fail;generalize hWc:w5.alloc _=wc at zQ zG zR zV zB zX hw hR hap ⊢;generalize w5.heap.size=Q at zQ hnQ ⊢;have HXr:=hidL hap;have hn1:∀ k,vi.ownBlock=some k→¬ (fun y=>Apart (fun y=>w1.heap.size+1+1≤y∨(S' y∧y<w.heap.size)) (w1.heap.size+1) vi vl y∧y<wc.heap.size) k:=fun k hk h=>h.1.2.1 hk
       have hdr:wc.drew.heap.size=wc.heap.size:=rfl;clear hap hWc;have hS:=trivial;have HSK:Hid (∀ W',Box W' (w1.heap.size+1) 65 [O 2,O 0,E0,vi,vl]→Box W' X 55 (FF fid fname ftype fkind 1)→Box W' Q 65 (VV pk pn ps E1 pi f1 E2 pl f2)→(fun W'=>(LL W' (w1.heap.size+1) 3 vi∧LL W' (w1.heap.size+1) 4 vl)∧LL W' X 0 (O fid)∧(LL W' Q 0 (O pk)∧LL W' Q 1 (O pn)∧LL W' Q 2 (.string ps)∧LL W' Q 3 (.slice E1 pi.length f1)∧LL W' Q 4 (.slice E2 pl.length f2))) W'):=fun W' h1 h2 h3=>⟨⟨h1.cell 3,h1.cell 4⟩,h2.cell 0,h3.five⟩
       replace hR:=hR.drew;replace zG:=zG.drew;replace zR:=zR.drew;replace zV:=zV.drew;replace zB:=zB.drew;replace zX:=zX.drew
       (first | (replace zQ:=zQ.drew) | (replace zQ:=zQ.grown hg5 hnQ))
       replace hw:=au hw;replace hS:=HSK.out _ zG zX zQ;refine aY (fun W'=>(LL W' (w1.heap.size+1) 3 vi∧LL W' (w1.heap.size+1) 4 vl)∧LL W' X 0 (O fid)∧(LL W' Q 0 (O pk)∧LL W' Q 1 (O pn)∧LL W' Q 2 (.string ps)∧LL W' Q 3 (.slice E1 pi.length f1)∧LL W' Q 4 (.slice E2 pl.length f2))) 12 (by kernel_rfl) ?_;apply tkL 0 hS;apply tkL 1 hS;apply tkL 2 hS;apply tkL 3 hS;apply tkL 6 hS;apply tkL 7 hS;apply tkL 8 hS
       try simp only[pu]
       refine jc (i:=4) (j:=9) rfl rfl (by kernel_rfl) (fun K hK=>?_) (fun K hK=>?_)
       rotate_left
       go_simp;have hZ2:=Box.Cq hw 65 (VV pk pn ps E1 pi f1 E2 pl f2)
       try simp only[World.size_alloc] at hZ2
       replace hR:=hR.alloc (.cells (VV pk pn ps E1 pi f1 E2 pl f2).toArray 65);replace zG:=zG.alloc (.cells (VV pk pn ps E1 pi f1 E2 pl f2).toArray 65);replace zR:=zR.alloc (.cells (VV pk pn ps E1 pi f1 E2 pl f2).toArray 65);replace zV:=zV.alloc (.cells (VV pk pn ps E1 pi f1 E2 pl f2).toArray 65);replace zB:=zB.alloc (.cells (VV pk pn ps E1 pi f1 E2 pl f2).toArray 65);replace zX:=zX.alloc (.cells (VV pk pn ps E1 pi f1 E2 pl f2).toArray 65)
       (first | (replace zQ:=zQ.alloc (.cells (VV pk pn ps E1 pi f1 E2 pl f2).toArray 65)) | (replace zQ:=zQ.grown hg5 hnQ))
       (first | (replace hZ1:=hZ1.alloc (.cells (VV pk pn ps E1 pi f1 E2 pl f2).toArray 65)) | skip)
       replace hw:=hw.alloc hw.size (.cells (VV pk pn ps E1 pi f1 E2 pl f2).toArray 65);replace hS:=HSK.out _ zG zX zQ;refine hK.out _ _ (fun _=>hS) ?_
       try simp only[pu]
       refine anq 4 (fun K hK=>?_)
       all_goals
        go_simp;have hZ1:=Box.Cq hw 3 [O fid]
        try simp only[World.size_alloc] at hZ1
        replace hR:=hR.alloc (.cells #[O fid] 3);replace zG:=zG.alloc (.cells #[O fid] 3);replace zR:=zR.alloc (.cells #[O fid] 3);replace zV:=zV.alloc (.cells #[O fid] 3);replace zB:=zB.alloc (.cells #[O fid] 3);replace zX:=zX.alloc (.cells #[O fid] 3)
        (first | (replace zQ:=zQ.alloc (.cells #[O fid] 3)) | (replace zQ:=zQ.grown hg5 hnQ))
        (first | (replace hZ2:=hZ2.alloc (.cells #[O fid] 3)) | skip)
        replace hw:=hw.alloc hw.size (.cells #[O fid] 3);replace hS:=HSK.out _ zG zX zQ;refine hK.out _ _ (fun _=>hS) ?_
        try simp only[pu]
       refine anq 5 (fun K hK=>?_)
       rotate_left
       refine jc (i:=5) (j:=9) rfl rfl (by kernel_rfl) (fun K hK=>?_) (fun K hK=>?_)
       rotate_left
       go_simp;have hZ2:=Box.Cq hw 65 (VV pk pn ps E1 pi f1 E2 pl f2)
       try simp only[World.size_alloc] at hZ2
       replace hR:=hR.alloc (.cells (VV pk pn ps E1 pi f1 E2 pl f2).toArray 65);replace zG:=zG.alloc (.cells (VV pk pn ps E1 pi f1 E2 pl f2).toArray 65);replace zR:=zR.alloc (.cells (VV pk pn ps E1 pi f1 E2 pl f2).toArray 65);replace zV:=zV.alloc (.cells (VV pk pn ps E1 pi f1 E2 pl f2).toArray 65);replace zB:=zB.alloc (.cells (VV pk pn ps E1 pi f1 E2 pl f2).toArray 65);replace zX:=zX.alloc (.cells (VV pk pn ps E1 pi f1 E2 pl f2).toArray 65)
       (first | (replace zQ:=zQ.alloc (.cells (VV pk pn ps E1 pi f1 E2 pl f2).toArray 65)) | (replace zQ:=zQ.grown hg5 hnQ))
       (first | (replace hZ1:=hZ1.alloc (.cells (VV pk pn ps E1 pi f1 E2 pl f2).toArray 65)) | skip)
       replace hw:=hw.alloc hw.size (.cells (VV pk pn ps E1 pi f1 E2 pl f2).toArray 65);replace hS:=HSK.out _ zG zX zQ;refine hK.out _ _ (fun _=>hS) ?_
       try simp only[pu]
       refine anq 5 (fun K hK=>?_)
       all_goals
        refine dM _ rfl (.tmp 88) (.tmp 91) rfl qh aQ.fair rfl rfl hR.ids (Src.one (es:=[O fid]) (y:=fid) rfl (gI.bK rfl) rfl hZ1.lies) (NoT.lt _) (by go_light;simp;omega) hR.hb ?_;intro v1 wk1 ho1 hg1 hv1;have hR':=hR.Fh ho1 hg1 hv1;replace zG:=zG.fU hR.ids (by first | exact .inl (by go_light;omega) | exact .inr (by decide)) hg1;replace zR:=zR.fU hR.ids (by first | exact .inl (by go_light;omega) | exact .inr (by decide)) hg1;replace zV:=zV.fU hR.ids (by first | exact .inl (by go_light;omega) | exact .inr (by decide)) hg1;replace zB:=zB.fU hR.ids (by first | exact .inl (by go_light;omega) | exact .inr (by decide)) hg1;replace zX:=zX.fU hR.ids (by first | exact .inl (by go_light;omega) | exact .inr (by decide)) hg1
        (first | (replace zQ:=zQ.fU hR.ids (by first | exact .inl (by go_light;omega) | exact .inr (by decide)) hg1) | (replace zQ:=zQ.grown hg5 hnQ))
        (first | (replace hZ2:=hZ2.fU hR.ids (.inr (by decide)) hg1) | skip)
        replace hw:=below_grown hw hg1 hw.size (fun g' h=>by go_light;have:=(hR.ilt h).1;omega);replace hR:=hR';clear hR';replace hS:=HSK.out _ zG zX zQ;refine hK.out _ _ (fun _=>hS) ?_
        try simp only[pu]
        apply tkL 11 hS
        try simp only[pu]
       rotate_right
       refine anq 9 (fun K hK=>?_);go_simp;have hZ2:=Box.Cq hw 65 (VV pk pn ps E1 pi f1 E2 pl f2)
       try simp only[World.size_alloc] at hZ2
       replace hR:=hR.alloc (.cells (VV pk pn ps E1 pi f1 E2 pl f2).toArray 65);replace zG:=zG.alloc (.cells (VV pk pn ps E1 pi f1 E2 pl f2).toArray 65);replace zR:=zR.alloc (.cells (VV pk pn ps E1 pi f1 E2 pl f2).toArray 65);replace zV:=zV.alloc (.cells (VV pk pn ps E1 pi f1 E2 pl f2).toArray 65);replace zB:=zB.alloc (.cells (VV pk pn ps E1 pi f1 E2 pl f2).toArray 65);replace zX:=zX.alloc (.cells (VV pk pn ps E1 pi f1 E2 pl f2).toArray 65)
       (first | (replace zQ:=zQ.alloc (.cells (VV pk pn ps E1 pi f1 E2 pl f2).toArray 65)) | (replace zQ:=zQ.grown hg5 hnQ))
       (first | (replace hZ1:=hZ1.alloc (.cells (VV pk pn ps E1 pi f1 E2 pl f2).toArray 65)) | skip)
       replace hw:=hw.alloc hw.size (.cells (VV pk pn ps E1 pi f1 E2 pl f2).toArray 65);replace hS:=HSK.out _ zG zX zQ;refine hK.out _ _ (fun _=>hS) ?_
       try simp only[pu]
       all_goals
        refine anq 10 (fun K hK=>?_);refine dM _ rfl (.tmp 94) (.tmp 96) rfl nJ aA.fair rfl rfl hR.Tp (Src.one (es:=(VV pk pn ps E1 pi f1 E2 pl f2)) (y:=aj.mk pk pn ps pi pl) rfl (gI.bK rfl) (hR.QV (aA.fair.keep HXr.out (by first | exact(((az.drew _ _).trans (az.alloc _ _ _)).trans (az.bH hg1 hn1)).trans (az.alloc _ _ _) | exact(((az.drew _ _).trans (az.alloc _ _ _)).trans (az.alloc _ _ _)).trans (az.bH hg1 hn1))) ?ap) hZ2.lies) (fun _ h=>h.2) (by go_light;simp;omega) hR.hb ?_
        case ap =>
         rintro y ⟨hy1,hy2⟩;refine⟨hy1.1,fun e=>?_,hy1.2.2.1,hy1.2.2.2⟩;rcases hv1 with h | h
         ·exact hy1.2.1 (h ▸ e)
         ·rw[h] at e;have e':=Option.some.inj e;simp at e';go_light;omega
        intro v5 w5 ho5 hg5 hv5;have hR':=hR.zA ho5 hg5 hv5;replace zG:=zG.fU hR.l (by first | exact .inl (by go_light;omega) | exact .inr (by decide)) hg5;replace zR:=zR.fU hR.l (by first | exact .inl (by go_light;omega) | exact .inr (by decide)) hg5;replace zV:=zV.fU hR.l (by first | exact .inl (by go_light;omega) | exact .inr (by decide)) hg5;replace zB:=zB.fU hR.l (by first | exact .inl (by go_light;omega) | exact .inr (by decide)) hg5;replace zX:=zX.fU hR.l (by first | exact .inl (by go_light;omega) | exact .inr (by decide)) hg5
        (first | (replace zQ:=zQ.fU hR.l (by first | exact .inl (by go_light;omega) | exact .inr (by decide)) hg5) | (replace zQ:=zQ.grown hg5 hnQ))
        replace hw:=below_grown hw hg5 hw.size (fun g' h=>by go_light;have:=(hR.llt h).1;omega);replace hR:=hR';clear hR';replace hS:=HSK.out _ zG zX zQ;have fz3:=zG.frozen 3;have cz3:=zG.c 3 rfl;have fz4:=zG.frozen 4;have cz4:=zG.c 4 rfl;have lz:=zG.lt;obtain⟨R1,p1,rfl,_⟩:=hR.ids.form;obtain⟨R2,p2,rfl,_⟩:=hR.l.form;refine hK.out _ _ (fun _=>hS) ?_
        try simp only[pu]
        refine anq 12 (fun K hK=>?_);go_simp;refine hK.out _ _ nay ?_
        try simp only[pu]
        refine anq 13 (fun K hK=>?_);go_simp;refine hK.out _ _ nay ?_
        try simp only[pu]
        refine anq 14 (fun K hK=>?_);go_simp;refine hK.out _ _ nay ?_
        try simp only[pu]
        refine ani ?_ _;simp only[List.length_append,List.length_map,List.length_cons,List.length_nil,Nat.zero_add] at hR;replace hR:=(hR.setCell 3 (.slice R1 (P0.length+1) p1)).setCell 4 (.slice R2 (P0.length+1) p2);replace zG:=(zG.gB 3 (.slice R1 (P0.length+1) p1)).gB 4 (.slice R2 (P0.length+1) p2);simp only[List.set_cons_zero,List.set_cons_succ,List.length_append,List.length_map,List.length_cons,List.length_nil,Nat.zero_add] at zG;replace zR:=zR.far (p:=⟨(w1.heap.size+1),3,none⟩) (by first | (simp;done) | (simp;omega)) (.slice R1 (P0.length+1) p1);replace zV:=zV.far (p:=⟨(w1.heap.size+1),3,none⟩) (by first | (simp;done) | (simp;omega)) (.slice R1 (P0.length+1) p1);replace zB:=zB.far (p:=⟨(w1.heap.size+1),3,none⟩) (by first | (simp;done) | (simp;omega)) (.slice R1 (P0.length+1) p1);replace zX:=zX.far (p:=⟨(w1.heap.size+1),3,none⟩) (by first | (simp;done) | (simp;omega)) (.slice R1 (P0.length+1) p1);replace zR:=zR.far (p:=⟨(w1.heap.size+1),4,none⟩) (by first | (simp;done) | (simp;omega)) (.slice R2 (P0.length+1) p2);replace zV:=zV.far (p:=⟨(w1.heap.size+1),4,none⟩) (by first | (simp;done) | (simp;omega)) (.slice R2 (P0.length+1) p2);replace zB:=zB.far (p:=⟨(w1.heap.size+1),4,none⟩) (by first | (simp;done) | (simp;omega)) (.slice R2 (P0.length+1) p2);replace zX:=zX.far (p:=⟨(w1.heap.size+1),4,none⟩) (by first | (simp;done) | (simp;omega)) (.slice R2 (P0.length+1) p2);replace hw:=(hw.setCell (p:=⟨(w1.heap.size+1),3,none⟩) (by first | (simp;done) | (simp;omega)) (.slice R1 (P0.length+1) p1)).setCell (p:=⟨(w1.heap.size+1),4,none⟩) (by first | (simp;done) | (simp;omega)) (.slice R2 (P0.length+1) p2);clear hS fz3 cz3 fz4 cz4 lz hg5 hv5 ho5 hg1 hv1 ho1;go_wp2;go_roundw
        case rel=>exact⟨n+1,_,_,by go_num,by go_light;omega,by rw[Hst.out];simpa using hR,zG,⟨zR,zV,zB⟩,hw⟩
        case measure=>go_light;simp[intOf];omega
      ·have hrb:(frule==1)=false:=by simpa using hr1
       have Hst:Hid (kv b d ty ids l (n+1)=P0++[]):=by show _=_;rw[Hst0.out,if_neg (fun h=>hr1 h.2)]
       clear hr1 Hst0;go_wp2;go_roundw
       case rel=>exact⟨n+1,_,_,by go_num,by omega,by rw[Hst.out];exact hR,zG,⟨zR,zV,zB⟩,hw⟩
       case measure=>simp[intOf];omega
     ·have Hst:Hid (kv b d ty ids l (n+1)=P0++Sel):=by show _=_;rw[Hst0.out,if_neg (fun h=>hc0 h.1)]
      obtain⟨c,hc⟩:=exE ((Sel.length:Nat):Int);rw[←hc];have hcb:(c==0)=false:=by
       rw[beq_eq_false_iff_ne];omega
      clear Hst0 hc0 hc;go_wp2;go_roundw
      case rel=>exact⟨n+1,_,_,by go_num,by omega,by rw[Hst.out];exact hR,zG,⟨zR,zV,zB⟩,hw⟩
      case measure=>simp[intOf];omega
  ·--[END
   obtain rfl:n=ty.fields.length:=by omega
   have hle:=HLen.out _ hn;have hv0:=Hpv.out;obtain⟨L,hL⟩:=exE (kv b d ty ids l ty.fields.length);rw[←hL] at hro hle hv0;have hv2:r=.mk 2 0 ⟨#[]⟩ (L.map (·.1)) (L.map (·.2)):=hv0;obtain⟨R1,p1,rfl,_⟩:=hro.ids.form;obtain⟨R2,p2,rfl,_⟩:=hro.l.form;have hrd:aA (fun y=>w1.heap.size+1+1≤y∨(S' y∧y<w.heap.size)) wr [O 2,O 0,E0,.slice R1 (L.map (·.1)).length p1,.slice R2 (L.map (·.2)).length p2] r:=by
    rw[hv2];exact hro.read (S:=(fun y=>w1.heap.size+1+1≤y∨(S' y∧y<w.heap.size))) (fun y hy=>.inl hy) (fun y hy=>hy) (by rw[List.length_map];omega) (by rw[List.length_map];omega) 2 0 ⟨#[]⟩
   generalize (L.map (·.1)).length=L1 at *;generalize (L.map (·.2)).length=L2 at *;obtain⟨e0,e1,e2,e3,e4⟩:=zG.five;obtain⟨r0,r1,r2,r3,r4⟩:=zR.five;have hlg:=zG.lt;have g0:=zR.frozen 0;have g1:=zR.frozen 1;have g2:=zR.frozen 2;have g3:=zR.frozen 3;have g4:=zR.frozen 4;have hlr:=zR.lt;have Hrd:=hidL hrd;clear hv0 hv2 hrd hro hle hL zV zB;go_wp2_with fail;change bodyPost _ _ _ _ _ (setCells wr (w.heap.size+1+1) 0 [O 2,O 0,E0,.slice R1 L1 p1,.slice R2 L2 p2]);have hb5:=zR.setCells [O 2,O 0,E0,.slice R1 L1 p1,.slice R2 L2 p2] rfl;have hw5:=below_setCells (g:=w.heap.size+1+1) (by go_light;omega) [O 2,O 0,E0,.slice R1 L1 p1,.slice R2 L2 p2] 0 _ hb;have hrd2:aA (Un S' w) (setCells wr (w.heap.size+1+1) 0 [O 2,O 0,E0,.slice R1 L1 p1,.slice R2 L2 p2]) [O 2,O 0,E0,.slice R1 L1 p1,.slice R2 L2 p2] r :=
    aA.fair.mono (aA.fair.keep Hrd.out (az.setCells (by rintro(h | h) <;> omega) _ _ _)) (fun y hy _=>hy.elim (fun h=>.inr (by go_light;omega)) (fun h=>.inl h.1))
   generalize setCells wr (w.heap.size+1+1) 0 _=W at hb5 hw5 hrd2 ⊢;exact bodyPost_ret (OA hb5 rfl) rfl ⟨_,rfl,hrd2,hw5⟩
theorem Zn (S:Nat→Prop)(vb:Value)(b:av)(hg:aB b=0)(hB:aS b):∀ (d:Nat),acV S vb b d
 | 0=>by
  rintro S' name cs ⟨kind,nn,s,ids,l⟩ w hd;rw[aD] at hd;omega
 | d+1=>agy S vb b hg hB d (Zn S vb b hg hB d)
end
section
open Go.Proofs.Tryz
open Go.RowKit
theorem IU {b:av}(hg:aB b=0):∀ (d:Nat) (v:aj) (t:ax),dU b t→cz b t v=0→aej d v
 | 0,_,_,_,_=>trivial
 | d+1,.mk kind n s ids l,t,hm,ht=>by
  obtain⟨a1,a2,a3,a4,a5,a6,a7,a8⟩:=(iO b t _).1 ht;simp only[aj.kind,aj.ids,aj.l,aj.n,aj.s] at a1 a2 a3 a4 a5 a6 a7 a8;refine⟨a2,fun x hx=>?_⟩;obtain⟨i,hi,rfl⟩:=List.getElem_of_mem (show x∈l from hx);have hz:(ids[i]'(by omega),l[i])∈ids.zip l:=List.mem_iff_getElem.2 ⟨i,by simp;omega,by simp⟩;have hfit:=a7 _ hz;obtain⟨f,hff⟩:=Option.isSome_iff_exists.1 (a5 (ids[i]'(by omega)) (List.getElem_mem _));unfold vR at hfit;simp only[hff,Option.getD_some] at hfit;have hf:=bC hm (bE hff).1
  by_cases h5:f.kind=5
  ·obtain⟨t2,_,h2,_,_,_,hm2⟩:=gZ hg hf h5;exact IU hg d l[i] t2 hm2 (h2 ▸ hfit.2 h5)
  ·obtain⟨hk,ho⟩:=ja hfit.1;obtain⟨o1,_,_⟩:=rD.1 ho;have hk2:l[i].kind≠2:=by
    by_cases h3:f.kind=3
    ·rw[hk,kindOf,if_pos h3];decide
    ·rw[hk,kindOf,if_neg h3,if_neg h5];decide
   obtain⟨e1,e2⟩:=o1 hk2;cases d with
   | zero=>trivial
   | succ d=>exact⟨by show (l[i]).ids.length=(l[i]).l.length;rw[e1,e2];rfl,fun y hy=>by rw[show (l[i]).l=[] from e2] at hy;cases hy⟩
def Zu (S':Nat→Prop)(w:World)(r:aj × Int)(e:Ending)(w':World):Prop:=∃ cs,e=.returned (.tuple #[.agg cs.toArray,O r.2])∧aA (Un S' w) w' cs r.1∧Below w.heap.size w w'
theorem CJ {W:World}{a:Act}{g:Nat}{c0 c1 c2 c3 c4:Value}{n:Int}(hb:Box W g 65 [c0,c1,c2,c3,c4])(h4:a.tmps.getD 8 undef=.pointer (some ⟨g,0,none⟩))(h5:a.tmps.getD 9 undef=O n) :
  (results f44 a.tmps).run prog W=.ok (.tuple #[.agg #[c0,c1,c2,c3,c4],O n]) W:=by
 obtain⟨e0,e1,e2,e3,e4⟩:=hb.five;simp only[Array.getD_eq_getD_getElem?] at h4 h5;simp[results,results44,go_sem,h4,h5,e0,e1,e2,e3,e4]
theorem Dp (S S':Nat→Prop)(vw vr:Value)(bw br:av)(name:ByteArray)(cs:List Value)(v:aj)(w:World)(hb1:RSl 5 96 ah S w [vw] bw)(hb2:RSl 5 96 ah S w [vr] br)(hr:aA S' w cs v)(hW:Words w)(o1:aS bw)(o2:aS br)(hok:okV v)
  (hd:aD v≤4611686018427387904) (hc:aW v≤4611686018427387904) :
  Calls prog 44 #[.agg #[vw],.agg #[vr],.string name,.agg cs.toArray] w (Zu S' w (uk bw br name v)):=by
 obtain⟨AW,cw,rfl,-,-⟩:=hb1.form;obtain⟨AR,cr,rfl,-,-⟩:=hb2.form;obtain⟨r,hrr⟩:=exE (uk bw br name v);have hr0:r=if iH bw br name≠0 then (.zero,iH bw br name) else if dQ bw name v≠0 then (.zero,dQ bw name v) else if (dH bw br name).1≠[] then (.zero,8)
  else if jA (iy br (aD v) (typeOf br name) v)=false then (.zero,7) else (iy br (aD v) (typeOf br name) v,0):=hrr
 rw[←hrr];have hbo:=fun W (h:Below w.heap.size w W)=>QF S _ _ bw br name W ((RSl.fair ah.fair).below hb1 h) ((RSl.fair ah.fair).below hb2 h) (hW.below h) o1 o2
 have hty:=fun W (h:Below w.heap.size w W)=>uB S S' _ bw name cs v W ((RSl.fair ah.fair).below hb1 h) (aA.fair.below hr h) (hW.below h) o1 hok hd hc
 have hfl:=fun W (h:Below w.heap.size w W)=>qI S _ _ bw br name W ((RSl.fair ah.fair).below hb1 h) ((RSl.fair ah.fair).below hb2 h) (hW.below h) o1 o2
 have hpr:iH bw br name=0→dQ bw name v=0→(dH bw br name).1=[]→(∀ W (_:Below w.heap.size w W),Calls prog 86 #[.agg #[.slice AR br.length cr],.string name,.agg cs.toArray] W (UY (fun y=>S' y∧y<w.heap.size) W (iy br (aD v) (typeOf br name) v)))∧aW (iy br (aD v) (typeOf br name) v)≤240012∧aD (iy br (aD v) (typeOf br name) v)≤29:=fun h1 h2 h3=>by
  obtain⟨q1,q2,q3,q4⟩:=mI h1;obtain⟨g1,g2,g3,g4⟩:=nX h2;refine⟨fun W h=>?_,Ur h1 h3 h2⟩;obtain⟨t,_,e2,hm,_,he⟩:=gK q3;exact Zn S _ br q2 o2 (aD v) (fun y=>S' y∧y<w.heap.size) name cs v W (Nat.le_refl _) ((RSl.fair ah.fair).below hb2 h) (aA.fair.below (aA.fair.mono hr (fun y hy hl=>⟨hy,hl⟩)) h) (hW.below h) q4 (IU q1 _ v t (bq q1 hm he) (by rw[←e2];exact g4)) (pR.1 g3).2
 obtain⟨bo,hbo0⟩:=exE (iH bw br name);obtain⟨ty,hty0⟩:=exE (dQ bw name v);obtain⟨fl,hfl0⟩:=exE (dH bw br name);obtain⟨pv,hpv0⟩:=exE (iy br (aD v) (typeOf br name) v);rw[←hbo0] at hbo hr0 hpr;rw[←hty0] at hty hr0 hpr;rw[←hfl0] at hfl hr0 hpr;rw[←hpv0] at hr0 hpr;have Hr:=hidL hr0;have Hbo:=hidL hbo;have Hty:=hidL hty;have Hfl:=hidL hfl;have Hpr:=hidL hpr;obtain⟨kind,n,s,ids,l⟩:=v;obtain⟨I1,d1,I2,d2,rfl,-,-⟩:=hr.parts;obtain⟨x1,x2,x3,x4,x5⟩:=rQ w [.slice AW bw.length cw] [.slice AR br.length cr] (VV kind n s I1 ids d1 I2 l d2) [O 0,O 0,E0,Z0,Z0] 38 38 65 65;clear hb1 hb2 hr hW o1 o2 hok hd hc hrr hr0 hbo hty hfl hpr hbo0 hty0 hfl0 hpv0;have z1:=x1.cell 0;have z2:=x2.cell 0;have l1:=x1.lt;have l2:=x2.lt;go_enter func44,ntmps44;go_wp2_with fail;refine(Hbo.out _ x5).mono ?_;rintro e w1 ⟨rfl,hb1⟩;have y1:=x1.below hb1 x1.lt;have y2:=x2.below hb1 x2.lt;have y3:=x3.below hb1 x3.lt;have y4:=x4.below hb1 x4.lt;have hw1:=aa x5 hb1 x5.size;clear x1 x2 x3 x4 x5 hb1 z1 z2 l1 l2 Hbo
 by_cases hbo:bo=0
 ·subst hbo;rw[if_neg (by simp)] at Hr;have z1:=y1.cell 0;have l1:=y1.lt;obtain⟨u0,u1,u2,u3,u4⟩:=y3.five;have l3:=y3.lt;go_wp2_with fail;refine(Hty.out _ hw1).mono ?_;rintro e w2 ⟨rfl,hb2⟩;clear z1 l1 u0 u1 u2 u3 u4 l3;have v1:=y1.below hb2 y1.lt;have v2:=y2.below hb2 y2.lt;have v3:=y3.below hb2 y3.lt;have v4:=y4.below hb2 y4.lt;have hw2:=aa hw1 hb2 hw1.size;clear y1 y2 y3 y4 hb2 hw1 Hty
  by_cases hty:ty=0
  ·subst hty;rw[if_neg (by simp)] at Hr;have z1:=v1.cell 0;have z2:=v2.cell 0;have l1:=v1.lt;have l2:=v2.lt;go_wp2_with fail;refine(Hfl.out _ hw2).mono ?_;rintro e w3 ⟨vf,rfl,hrf,hb3⟩;obtain⟨AF,cf,rfl,-,-⟩:=hrf.form;clear z1 z2 l1 l2;have y1:=v1.below hb3 v1.lt;have y2:=v2.below hb3 v2.lt;have y3:=v3.below hb3 v3.lt;have y4:=v4.below hb3 v4.lt;have hw3:=aa hw2 hb3 hw2.size;obtain⟨f,c⟩:=fl;dsimp only at Hr Hpr ⊢;clear v1 v2 v3 v4 hb3 hw2 Hfl hrf
   by_cases hf:f=[]
   ·subst hf;rw[if_neg (by simp)] at Hr;have Hrun:=hidL (Hpr.out (by simp) (by simp) (by simp));have z2:=y2.cell 0;have l2:=y2.lt;obtain⟨u0,u1,u2,u3,u4⟩:=y3.five;have l3:=y3.lt;clear Hpr;go_wp2_with fail;refine(Hrun.out.1 _ hw3).mono ?_;rintro e w4 ⟨cs4,rfl,hr4,hb4⟩;clear z2 l2 u0 u1 u2 u3 u4 l3;obtain⟨pk,pn,ps,pi,pl⟩:=pv;obtain⟨E1,f1,E2,f2,rfl,-,-⟩:=hr4.parts;have hr5:=aA.fair.keep hr4 (az.alloc _ w4 (.cells (VV pk pn ps E1 pi f1 E2 pl f2).toArray 65));have hw4:=aa hw3 hb4 hw3.size;have hw5:=hw4.alloc hw4.size (.cells (VV pk pn ps E1 pi f1 E2 pl f2).toArray 65);have zp:Box (w4.alloc (.cells (VV pk pn ps E1 pi f1 E2 pl f2).toArray 65)) w4.heap.size 65 (VV pk pn ps E1 pi f1 E2 pl f2):=Box.new w4 _ _;have v4:=(y4.below hb4 y4.lt).alloc (.cells (VV pk pn ps E1 pi f1 E2 pl f2).toArray 65);have hR8:¬ Un (fun y=>S' y∧y<w.heap.size) w3 (w.heap.size+1+1+1):=by
     have:=y4.lt;rintro(h | h)
     ·have:=h.2;omega
     ·omega
    have Hup:=hidL (fun y (hy:Un (fun y=>S' y∧y<w.heap.size) w3 y)=>(show Un S' w y from hy.elim (fun h=>.inl h.1) (fun h=>.inr (Nat.le_trans hw3.size h))));have hnp:(w.heap.size+1+1+1)<w4.heap.size:=(y4.below hb4 y4.lt).lt;have hsz:=hidL (fun W (h:aA (Un (fun y=>S' y∧y<w.heap.size) w3) W (VV pk pn ps E1 pi f1 E2 pl f2) (.mk pk pn ps pi pl))=>Dq _ _ _ (.mk pk pn ps pi pl) W (Nat.le_refl _) h (by have:=Hrun.out.2;omega) (by have:=Hrun.out.2;omega));have Hr6:=hidL hr5;have Hsm:Hid (jA (.mk pk pn ps pi pl)=decide (aD (.mk pk pn ps pi pl)≤24∧aW (.mk pk pn ps pi pl)≤400)):=rfl;obtain⟨sm,hsm⟩:=exE (jA (.mk pk pn ps pi pl));rw[←hsm] at Hr Hsm;obtain⟨dd,hdd⟩:=exE (aD (.mk pk pn ps pi pl));obtain⟨cc,hcc⟩:=exE (aW (.mk pk pn ps pi pl));rw[←hdd,←hcc] at Hsm hsz;obtain⟨c0,c1,c2,c3,c4⟩:=zp.five;have lp:=zp.lt;clear hr4 hr5 hb4 y1 y2 y3 y4 hw3 hw4 hsm hdd hcc Hrun;go_upto_region 11 with fail;generalize w4.heap.size=P at zp hnp c0 c1 c2 c3 c4 lp ⊢;generalize w4.alloc _=W4 at zp v4 hw5 Hr6 c0 c1 c2 c3 c4 lp ⊢;go_wp2_with fail;refine(hsz.out _ Hr6.out).mono ?_;rintro e w6 ⟨rfl,hb6⟩;have zp6:=zp.below hb6 zp.lt;have v6:=v4.below hb6 v4.lt;have hw6:=aa hw5 hb6 hw5.size;have Hr7:=hidL (aA.fair.below Hr6.out hb6);clear c0 c1 c2 c3 c4 lp zp v4 hw5 Hr6 hb6 hsz
    by_cases hsmall:dd≤24∧cc≤400
    ·have Hno:Hid (r=(.mk pk pn ps pi pl,0)):=by show _=_;rw[Hr.out,Hsm.out,if_neg (by simp[hsmall])]
     obtain⟨h1,h2⟩:=hsmall;have hd':¬ ((24:Int)<(dd:Int)):=by omega
     have hc':¬ ((400:Int)<(cc:Int)):=by omega
     obtain⟨c0,c1,c2,c3,c4⟩:=zp6.five;have lp:=zp6.lt;obtain⟨r0,r1,r2,r3,r4,g0,g1,g2,g3,g4,hlr⟩:=(v6).rr5;clear h1 h2;go_wp2_with fail;change bodyPost _ _ _ _ _ (setCells w6 (w.heap.size+1+1+1) 0 (VV pk pn ps E1 pi f1 E2 pl f2));have hb5:=v6.setCells (VV pk pn ps E1 pi f1 E2 pl f2) rfl;have hw7:=below_setCells (g:=(w.heap.size+1+1+1)) (by go_light;omega) (VV pk pn ps E1 pi f1 E2 pl f2) 0 _ hw6;have hrd:aA (Un S' w) (setCells w6 (w.heap.size+1+1+1) 0 (VV pk pn ps E1 pi f1 E2 pl f2)) (VV pk pn ps E1 pi f1 E2 pl f2) (.mk pk pn ps pi pl):=aA.fair.mono (aA.fair.keep Hr7.out (az.setCells hR8 _ _ _)) (fun y hy _=>Hup.out y hy);generalize setCells w6 (w.heap.size+1+1+1) 0 _=W5 at hb5 hw7 hrd ⊢;rw[Hno.out];exact bodyPost_ret (CJ hb5 rfl rfl) rfl ⟨_,rfl,hrd,hw7⟩
    ·have Hno:Hid (r=(.zero,7)):=by show _=_;rw[Hr.out,Hsm.out,if_pos (by simpa using hsmall)]
     by_cases hd1:dd≤24
     ·have hd':¬ ((24:Int)<(dd:Int)):=by omega
      have hc':(400:Int)<(cc:Int):=by
       have:¬ cc≤400:=fun h=>hsmall ⟨hd1,h⟩
       omega
      clear hsmall hd1;obtain⟨r0,r1,r2,r3,r4,g0,g1,g2,g3,g4,hlr⟩:=(v6).rr5;go_wp2_with fail;change bodyPost _ _ _ _ _ (setCells w6 (w.heap.size+1+1+1) 0 [O 0,O 0,E0,Z0,Z0]);have hb5:=v6.setCells [O 0,O 0,E0,Z0,Z0] rfl;have hw5:=below_setCells (g:=(w.heap.size+1+1+1)) (by go_light;omega) [O 0,O 0,E0,Z0,Z0] 0 _ hw6;generalize setCells w6 (w.heap.size+1+1+1) 0 _=W5 at hb5 hw5 ⊢;rw[Hno.out];exact bodyPost_ret (CJ hb5 rfl rfl) rfl ⟨_,rfl,aA.zero,hw5⟩
     ·have hd':(24:Int)<(dd:Int):=by omega
      clear hsmall hd1;obtain⟨r0,r1,r2,r3,r4,g0,g1,g2,g3,g4,hlr⟩:=(v6).rr5;go_wp2_with fail;change bodyPost _ _ _ _ _ (setCells w6 (w.heap.size+1+1+1) 0 [O 0,O 0,E0,Z0,Z0]);have hb5:=v6.setCells [O 0,O 0,E0,Z0,Z0] rfl;have hw5:=below_setCells (g:=(w.heap.size+1+1+1)) (by go_light;omega) [O 0,O 0,E0,Z0,Z0] 0 _ hw6;generalize setCells w6 (w.heap.size+1+1+1) 0 _=W5 at hb5 hw5 ⊢;rw[Hno.out];exact bodyPost_ret (CJ hb5 rfl rfl) rfl ⟨_,rfl,aA.zero,hw5⟩
   ·have Hno:Hid (r=(.zero,8)):=by show _=_;rw[Hr.out,if_pos hf]
    have hfb:0<f.length:=List.length_pos_iff.2 hf;clear hf;obtain⟨r0,r1,r2,r3,r4,g0,g1,g2,g3,g4,hlr⟩:=(y4).rr5;go_wp2_with fail;change bodyPost _ _ _ _ _ (setCells w3 (w.heap.size+1+1+1) 0 [O 0,O 0,E0,Z0,Z0]);have hb5:=y4.setCells [O 0,O 0,E0,Z0,Z0] rfl;have hw5:=below_setCells (g:=(w.heap.size+1+1+1)) (by go_light;omega) [O 0,O 0,E0,Z0,Z0] 0 _ hw3;generalize setCells w3 (w.heap.size+1+1+1) 0 _=W5 at hb5 hw5 ⊢;rw[Hno.out];exact bodyPost_ret (CJ hb5 rfl rfl) rfl ⟨_,rfl,aA.zero,hw5⟩
  ·have Hno:Hid (r=(.zero,ty)):=by show _=_;rw[Hr.out,if_pos hty]
   have hcb:(ty != 0)=true:=by simpa using hty
   clear hty;obtain⟨r0,r1,r2,r3,r4,g0,g1,g2,g3,g4,hlr⟩:=(v4).rr5;go_wp2_with fail;change bodyPost _ _ _ _ _ (setCells w2 (w.heap.size+1+1+1) 0 [O 0,O 0,E0,Z0,Z0]);have hb5:=v4.setCells [O 0,O 0,E0,Z0,Z0] rfl;have hw5:=below_setCells (g:=(w.heap.size+1+1+1)) (by go_light;omega) [O 0,O 0,E0,Z0,Z0] 0 _ hw2;generalize setCells w2 (w.heap.size+1+1+1) 0 _=W5 at hb5 hw5 ⊢;rw[Hno.out];exact bodyPost_ret (CJ hb5 rfl rfl) rfl ⟨_,rfl,aA.zero,hw5⟩
 ·have Hno:Hid (r=(.zero,bo)):=by show _=_;rw[Hr.out,if_pos hbo]
  have hcb:(bo != 0)=true:=by simpa using hbo
  clear hbo;obtain⟨r0,r1,r2,r3,r4,g0,g1,g2,g3,g4,hlr⟩:=(y4).rr5;go_wp2_with fail;change bodyPost _ _ _ _ _ (setCells w1 (w.heap.size+1+1+1) 0 [O 0,O 0,E0,Z0,Z0]);have hb5:=y4.setCells [O 0,O 0,E0,Z0,Z0] rfl;have hw5:=below_setCells (g:=(w.heap.size+1+1+1)) (by go_light;omega) [O 0,O 0,E0,Z0,Z0] 0 _ hw1;generalize setCells w1 (w.heap.size+1+1+1) 0 _=W5 at hb5 hw5 ⊢;rw[Hno.out];exact bodyPost_ret (CJ hb5 rfl rfl) rfl ⟨_,rfl,aA.zero,hw5⟩
def SameVAt (S S':Nat→Prop)(d:Nat):Prop:=∀ (cs cs':List Value) (v:aj) (w:World),aD v≤d→aA S w cs v→aA S' w cs' v →
 Calls prog 46 #[.agg cs.toArray,.agg cs'.toArray] w (Ret w (.bool true))
theorem sameV_succ (S S':Nat→Prop)(d:Nat)(IH0:SameVAt S S' d):SameVAt S S' (d+1):=by
 intro cs cs' v w hd hr hr';obtain⟨kind,n,s,ids,l⟩:=v;obtain⟨I1,d1,I2,d2,rfl,hri,hrl⟩:=hr.parts;obtain⟨J1,h1,J2,h2,rfl,hri',hrl'⟩:=hr'.parts;obtain⟨_,_,_,hic,hib⟩:=hri.form;obtain⟨_,_,_,hlc,hlb⟩:=hrl.form;have IH:=hidL IH0;have HI:=hidL hri;have HL:=hidL hrl;have HI':=hidL hri';have HL':=hidL hrl';rw[aD] at hd;have HD:=hidL (fun x (hx:x∈l)=>(show aD x≤d from by have:=gG hx;omega));obtain⟨x1,x2,x3⟩:=bY w (VV kind n s I1 ids d1 I2 l d2) (VV kind n s J1 ids h1 J2 l h2) 65 65;clear hr hr' hri hrl hri' hrl' hd;go_enter func46,ntmps46;go_wp2_with fail;go_loopw [47] (fun i wr=>∃ k:Nat,i=O k∧k≤ids.length∧Box wr w.heap.size 65 (VV kind n s I1 ids d1 I2 l d2)∧Box wr (w.heap.size+1) 65 (VV kind n s J1 ids h1 J2 l h2)∧Below w.heap.size w wr) (fun i _=>ids.length-(intOf i).toNat)
 case atStart=>exact⟨0,rfl,by go_light;omega,x1,x2,x3⟩
 case round =>
  obtain⟨k,rfl,hk,z1,z2,hb⟩:=hrel;clear x1 x2 x3
  by_cases hlt:k<ids.length
  ·obtain⟨ig,io,rfl,hSi,hgi⟩:=HI.out.base (by go_light;omega);obtain⟨jg,jo,rfl,hSj,hgj⟩:=HI'.out.base (by go_light;omega);have hci:=(HI.out.flat (enc:=fun x:Int=>[O x]) hlt).keep (az.of_below hb) hSi;have hcj:=(HI'.out.flat (enc:=fun x:Int=>[O x]) hlt).keep (az.of_below hb) hSj;obtain⟨x,hx⟩:=exE (ids[k]);rw[←hx] at hci hcj;have q0:LL wr ig (io+k) (O x):=by have:=hci.at_ 0 rfl;simpa using this
   have p0:LL wr jg (jo+k) (O x):=by have:=hcj.at_ 0 rfl;simpa using this
   have hS:LL wr.drew w.heap.size 3 (.slice (some ⟨ig,io,none⟩) ids.length d1)∧LL wr.drew ig (io+k) (O x)∧LL wr.drew (w.heap.size+1) 3 (.slice (some ⟨jg,jo,none⟩) ids.length h1)∧LL wr.drew jg (jo+k) (O x):=⟨z1.cell 3,q0,z2.cell 3,p0⟩;have hw':=au hb;have z1':=z1.drew;have z2':=z2.drew;clear hci hcj q0 p0 hx z1 z2 hb;go_wp2_with fail;refine aY (lt:=11) (hm:=by kernel_rfl) (h:=?_) (S:=fun W'=>LL W' w.heap.size 3 (.slice (some ⟨ig,io,none⟩) ids.length d1)∧LL W' ig (io+k) (O x)∧LL W' (w.heap.size+1) 3 (.slice (some ⟨jg,jo,none⟩) ids.length h1)∧LL W' jg (jo+k) (O x));apply tkL 0 hS;apply tkL 1 hS;apply tkL 2 hS;apply tkL 3 hS;apply tkL 4 hS;apply tkL 5 hS;apply tkL 6 hS;apply tkL 7 hS;apply tkL 8 hS;apply tkL 9 hS;apply tkL 10 hS
   try simp only[pu]
   refine ani ?_ _;clear hS;go_wp2;go_roundw
   case rel=>exact⟨k+1,by go_num,by go_light;omega,z1',z2',hw'⟩
   case measure=>go_light;simp[intOf];omega
  ·have c4:LL wr w.heap.size 4 (.slice I2 l.length d2):=z1.cell 4;have hl1:=z1.lt;go_wp2_with fail;clear c4 hl1;go_loopw [65] (fun i wi=>∃ k:Nat,i=O k∧k≤l.length∧Box wi w.heap.size 65 (VV kind n s I1 ids d1 I2 l d2)∧Box wi (w.heap.size+1) 65 (VV kind n s J1 ids h1 J2 l h2)∧Below w.heap.size w wi) (fun i _=>l.length-(intOf i).toNat)
   case atStart=>exact⟨0,rfl,by go_light;omega,z1,z2,hb⟩
   case round =>
    clear z1 z2 hb hlt hk;obtain⟨j,rfl,hj,z1,z2,hb⟩:=hrel
    by_cases hjl:j<l.length
    ·obtain⟨lg,lo,rfl,hSl,hgl⟩:=HL.out.base (by go_light;omega);obtain⟨mg,mo,rfl,hSm,hgm⟩:=HL'.out.base (by go_light;omega);obtain⟨es,_,hrx,hlx⟩:=HL.out.lies hjl;obtain⟨fs,_,hry,hly⟩:=HL'.out.lies hjl;have hdx:=HD.out l[j] (List.getElem_mem hjl);obtain⟨x,hx⟩:=exE (l[j]);rw[←hx] at hrx hry hdx;obtain⟨xk,xn,xs,xi,xl⟩:=x;obtain⟨E1,e1,E2,e2,rfl,_,_⟩:=hrx.parts;obtain⟨F1,f1,F2,f2,rfl,_,_⟩:=hry.parts;have hc:=hlx.keep (az.of_below (au hb)) hSl;have hd:=hly.keep (az.of_below (au hb)) hSm;have hw':=au hb;have z1':=z1.drew;have z2':=z2.drew;have HRx:=hidL (aA.fair.below hrx hw');have HRy:=hidL (aA.fair.below hry hw');have HDx:=hidL hdx;have hS:LL wr.drew w.heap.size 4 (.slice (some ⟨lg,lo,none⟩) l.length d2)∧(LL wr.drew lg (lo+j*5) (O xk)∧LL wr.drew lg (lo+j*5+1) (O xn)∧LL wr.drew lg (lo+j*5+2) (.string xs)∧LL wr.drew lg (lo+j*5+3) (.slice E1 xi.length e1)∧LL wr.drew lg (lo+j*5+4) (.slice E2 xl.length e2)) ∧
      LL wr.drew (w.heap.size+1) 4 (.slice (some ⟨mg,mo,none⟩) l.length h2)∧(LL wr.drew mg (mo+j*5) (O xk)∧LL wr.drew mg (mo+j*5+1) (O xn)∧LL wr.drew mg (mo+j*5+2) (.string xs)∧LL wr.drew mg (mo+j*5+3) (.slice F1 xi.length f1)∧LL wr.drew mg (mo+j*5+4) (.slice F2 xl.length f2)) :=
      ⟨z1.cell 4,⟨hc.at_ 0 rfl,hc.at_ 1 rfl,hc.at_ 2 rfl,hc.at_ 3 rfl,hc.at_ 4 rfl⟩,z2.cell 4,⟨hd.at_ 0 rfl,hd.at_ 1 rfl,hd.at_ 2 rfl,hd.at_ 3 rfl,hd.at_ 4 rfl⟩⟩
     clear hrx hry hlx hly hdx hx hc hd z1 z2 hb;go_wp2_with fail;refine aY (lt:=10) (hm:=by kernel_rfl) (h:=?_) (S:=fun W'=>LL W' w.heap.size 4 (.slice (some ⟨lg,lo,none⟩) l.length d2)∧(LL W' lg (lo+j*5) (O xk)∧LL W' lg (lo+j*5+1) (O xn)∧LL W' lg (lo+j*5+2) (.string xs)∧LL W' lg (lo+j*5+3) (.slice E1 xi.length e1)∧LL W' lg (lo+j*5+4) (.slice E2 xl.length e2)) ∧
      LL W' (w.heap.size+1) 4 (.slice (some ⟨mg,mo,none⟩) l.length h2)∧(LL W' mg (mo+j*5) (O xk)∧LL W' mg (mo+j*5+1) (O xn)∧LL W' mg (mo+j*5+2) (.string xs)∧LL W' mg (mo+j*5+3) (.slice F1 xi.length f1)∧LL W' mg (mo+j*5+4) (.slice F2 xl.length f2)))
     apply tkL 0 hS;apply tkL 1 hS;apply tkL 2 hS;apply tkL 3 hS;apply tkL 4 hS;apply tkL 5 hS;apply tkL 6 hS;apply tkL 7 hS;apply tkL 8 hS;apply tkL 9 hS
     try simp only[pu]
     refine anq 10 (fun K hK=>?_);go_simp;refine(IH.out _ _ (.mk xk xn xs xi xl) _ HDx.out HRx.out HRy.out).mono ?_;rintro e w3 ⟨rfl,hb3⟩;refine hK.out _ _ nay ?_
     try simp only[pu]
     refine anq 11 (fun K hK=>?_);go_simp;refine hK.out _ _ nay ?_
     try simp only[pu]
     refine ani ?_ _;have hw3:=aa hw' hb3 hw'.size;have y1:=z1'.below hb3 z1'.lt;have y2:=z2'.below hb3 z2'.lt;clear hS hb3 z1' z2' hw';go_wp2;go_roundw
     case rel=>exact⟨j+1,by go_num,by go_light;omega,y1,y2,hw3⟩
     case measure=>go_light;simp[intOf];omega
    ·go_wp2;go_ret;exact⟨rfl,hb⟩
theorem sameV_any (S S':Nat→Prop):∀ (d:Nat),SameVAt S S' d
 | 0=>fun _ _ v _ hd _ _=>by
  obtain⟨kind,n,s,ids,l⟩:=v;rw[aD] at hd;omega
 | d+1=>sameV_succ S S' d (sameV_any S S' d)
theorem readsT_any (S S':Nat→Prop)(vw vr:Value)(bw br:av)(name:ByteArray)(cs:List Value)(v:aj)(w:World)(hb1:RSl 5 96 ah S w [vw] bw)(hb2:RSl 5 96 ah S w [vr] br)(hr:aA S' w cs v)(hW:Words w)(o1:aS bw)(o2:aS br)(hok:okV v)
  (hd:aD v≤4611686018427387904) (hc:aW v≤4611686018427387904) (hg:aB br=0) (hf:dW bw name=false→dW br name=false→(dH bw br name).1=[]) :
  Calls prog 18 #[.agg #[vw],.agg #[vr],.string name,.agg cs.toArray] w (Ret w (.bool true)):=by
 obtain⟨AW,cw,rfl,-,-⟩:=hb1.form;obtain⟨AR,cr,rfl,-,-⟩:=hb2.form;have hen:=fun W (h:Below w.heap.size w W)=>oF S S' _ bw name cs v W ((RSl.fair ah.fair).below hb1 h) (aA.fair.below hr h) (hW.below h) o1 hok hd hc
 have hfi:=fun W (h:Below w.heap.size w W)=>gH S _ br name W ((RSl.fair ah.fair).below hb2 h)
 have hpj:=fun W (h:Below w.heap.size w W)=>Dp S S' _ _ bw br name cs v W ((RSl.fair ah.fair).below hb1 h) ((RSl.fair ah.fair).below hb2 h) (aA.fair.below hr h) (hW.below h) o1 o2 hok hd hc
 have hdc:(iF bw name v).2=0→dW br name=false→((uk bw br name v).2=0∨(uk bw br name v).2=7)∧∀ W (_:Below w.heap.size w W),Calls prog 45 #[.agg #[.slice AR br.length cr],.string name,.string ⟨(iF bw name v).1.toArray⟩] W (jf W (uk bw br name v)):=fun h2 h3=>by
  have hty:dQ bw name v=0:=by rw[←rU.1];exact h2
  obtain⟨g1,n1,-,-⟩:=nX hty;have hbo:iH bw br name=0:=by unfold iH;rw[if_neg (by simp[g1,hg]),if_neg (by simp[n1,h3])]
  obtain⟨r1,r2⟩:=ahr hbo (hf n1 h3) hty;refine⟨r2,fun W h=>?_⟩;obtain⟨_,q2,_⟩:=xN hty;have he:=(rU (b:=bw) (name:=name) (v:=v)).2.2 h2;rw[he];have:=mr S _ br name ⟨(dI v).1.toArray⟩ W ((RSl.fair ah.fair).below hb2 h) (hW.below h) o2 (by unfold maxLen;show (dI v).1.toArray.size≤_;simp;omega);rw[sU] at this;rw[r1];exact this
 have hnb:dW br name=(!(aM br name).isSome||((aM br name).getD .zero).enum):=by unfold dW;cases aM br name <;> rfl
 obtain⟨en,hee⟩:=exE (iF bw name v);obtain⟨pj,hpe⟩:=exE (uk bw br name v);obtain⟨ft,hft⟩:=exE (aM br name);rw[←hee] at hen hdc;rw[←hpe] at hpj hdc;rw[←hft] at hfi hnb;rw[hnb] at hdc;have Hen:=hidL hen;have Hfi:=hidL hfi;have Hpj:=hidL hpj;have Hdc:=hidL hdc;obtain⟨eb,ec⟩:=en;obtain⟨kind,n,s,ids,l⟩:=v;obtain⟨I1,d1,I2,d2,rfl,-,-⟩:=hr.parts;obtain⟨x1,x2,x3,x5⟩:=kW w [.slice AW bw.length cw] [.slice AR br.length cr] (VV kind n s I1 ids d1 I2 l d2) 38 38 65;have z1:=x1.cell 0;have l1:=x1.lt;obtain⟨u0,u1,u2,u3,u4⟩:=x3.five;have l3:=x3.lt;clear hb1 hb2 hr hW o1 o2 hok hd hc hg hf hen hpj hfi hdc hee hpe hft hnb;go_enter func18,ntmps18;go_wp2_with fail;refine(Hen.out _ x5).mono ?_;rintro e w1 ⟨rfl,hb1⟩;have y1:=x1.below hb1 x1.lt;have y2:=x2.below hb1 x2.lt;have y3:=x3.below hb1 x3.lt;have hw1:=aa x5 hb1 x5.size;clear z1 l1 u0 u1 u2 u3 u4 l3 x1 x2 x3 x5 hb1 Hen;have z2:=y2.cell 0;have l2:=y2.lt;go_wp2_with fail;refine(Hfi.out _ hw1).mono ?_;rintro e w2 ⟨ct,rfl,ht,hb2⟩;obtain⟨t,hte⟩:=exE (ft.getD .zero);rw[←hte] at ht Hdc;obtain⟨R1,r1,R2,r2,R3,r3,rfl,-,-,-⟩:=ht.parts;have xT:=Box.new w2 53 (TT t R1 r1 R2 r2 R3 r3);have hA:=(Below.here w2).alloc (Nat.le_refl _) (.cells (TT t R1 r1 R2 r2 R3 r3).toArray 53);have hw2:=aa hw1 (aa hb2 hA hb2.size) hw1.size;have hbA:=aa hb2 hA hb2.size;have v1:=y1.below hbA y1.lt;have v2:=y2.below hbA y2.lt;have v3:=y3.below hbA y3.lt;clear z2 l2 y1 y2 y3 hb2 hw1 Hfi ht hte hA hbA;go_upto_region 3 with fail;generalize w2.heap.size=T at xT ⊢;generalize w2.alloc _=W2 at xT v1 v2 v3 hw2 ⊢;obtain⟨fs,hfs⟩:=exE ft.isSome;rw[←hfs] at Hdc ⊢;have t1:LL W2 T 1 (.bool t.enum):=xT.cell 1;obtain⟨te,hte⟩:=exE t.enum;rw[←hte] at Hdc t1;have tl:=xT.lt;clear hfs hte xT
 by_cases hec:ec=0
 ·subst hec;cases fs
  case false =>
   go_wp2;go_ret;exact⟨rfl,hw2⟩
  case true =>
   cases te
   case true =>
    go_wp2;go_ret;exact⟨rfl,hw2⟩
   case false =>
    obtain⟨ho,hdec⟩:=Hdc.out rfl rfl;have Hdec:=hidL hdec;clear Hdc hdec;have z1:=v1.cell 0;have l1:=v1.lt;have z2:=v2.cell 0;have l2:=v2.lt;obtain⟨u0,u1,u2,u3,u4⟩:=v3.five;have l3:=v3.lt;go_wp2_with fail;refine(Hpj.out _ hw2).mono ?_;rintro e w4 ⟨cs4,rfl,hr4,hb4⟩;obtain⟨⟨pk,pn,ps,pi,pl⟩,pc⟩:=pj;dsimp only at hr4 Hdec ho ⊢;obtain⟨E1,f1,E2,f2,rfl,-,-⟩:=hr4.parts;have hw4:=(aa hw2 hb4 hw2.size).alloc (aa hw2 hb4 hw2.size).size (.cells (VV pk pn ps E1 pi f1 E2 pl f2).toArray 65);have y2:=(v2.below hb4 v2.lt).alloc (.cells (VV pk pn ps E1 pi f1 E2 pl f2).toArray 65);have zp:Box (w4.alloc (.cells (VV pk pn ps E1 pi f1 E2 pl f2).toArray 65)) w4.heap.size 65 (VV pk pn ps E1 pi f1 E2 pl f2):=Box.new w4 _ _;have Hr4:=hidL (aA.fair.keep hr4 (az.alloc _ w4 (.cells (VV pk pn ps E1 pi f1 E2 pl f2).toArray 65)));clear t1 tl z1 l1 z2 l2 u0 u1 u2 u3 u4 l3 v1 v2 v3 hr4 hb4 hw2 Hpj;go_upto_region 6 with fail;generalize w4.heap.size=P at zp ⊢;generalize w4.alloc _=W4 at zp y2 hw4 Hr4 ⊢;have z2:=y2.cell 0;have l2:=y2.lt;go_wp2_with fail;refine(Hdec.out _ hw4).mono ?_;rintro e w5 ⟨cs5,rfl,hr5,hb5⟩;dsimp only at hr5 ⊢;obtain⟨J1,j1,J2,j2,rfl,-,-⟩:=hr5.parts;have hw5:=(aa hw4 hb5 hw4.size).alloc (aa hw4 hb5 hw4.size).size (.cells (VV pk pn ps J1 pi j1 J2 pl j2).toArray 65);have zp5:=(zp.below hb5 zp.lt).alloc (.cells (VV pk pn ps J1 pi j1 J2 pl j2).toArray 65);have zq:Box (w5.alloc (.cells (VV pk pn ps J1 pi j1 J2 pl j2).toArray 65)) w5.heap.size 65 (VV pk pn ps J1 pi j1 J2 pl j2):=Box.new w5 _ _;have Hr5:=hidL (aA.fair.keep hr5 (az.alloc _ w5 (.cells (VV pk pn ps J1 pi j1 J2 pl j2).toArray 65)));have Hr4':=hidL (aA.fair.keep (aA.fair.below Hr4.out hb5) (az.alloc _ w5 (.cells (VV pk pn ps J1 pi j1 J2 pl j2).toArray 65)));clear z2 l2 y2 zp hr5 hb5 hw4 Hdec Hr4;go_upto_region 7 with fail;generalize w5.heap.size=Q at zq ⊢;generalize w5.alloc _=W5 at zq zp5 hw5 Hr5 Hr4' ⊢;have Hs:=hidL (sameV_any _ _ _ _ _ (.mk pk pn ps pi pl) W5 (Nat.le_refl _) Hr4'.out Hr5.out);obtain⟨u0,u1,u2,u3,u4⟩:=zp5.five;have l3:=zp5.lt;obtain⟨c0,c1,c2,c3,c4⟩:=zq.five;have lp:=zq.lt;clear zp5 zq Hr4' Hr5;rcases ho with rfl | rfl
    all_goals
     go_wp2_with fail;refine Hs.out.mono ?_;rintro e w6 ⟨rfl,hb6⟩;go_wp2;go_ret;exact⟨rfl,aa hw5 hb6 hw5.size⟩
 ·have hcb:(ec != 0)=true:=by simpa using hec
  clear hec;go_wp2;go_ret;exact⟨rfl,hw2⟩
end
end Go.Proofs.YtknnhpkjgnkcdaaGreatDoor
