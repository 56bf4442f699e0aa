/- Walks and plain laws. -/
import Derived.Test.YthhldfpmhmocfaaGreatDoorBase
import Derived.Lib.SlicesCompact
set_option linter.all false
namespace Go.Proofs.YthhldfpmhmocfaaGreatDoor
open Go.RowKit
structure aX where
 type:ByteArray
 id:Int
 why:Int
 deriving DecidableEq
def dh (f:aX):List Value:=[.string f.type,.int .i64 f.id,.int .i64 f.why]
def aU:Rel aX:=dS dh
theorem aU.fair:Fair aU:=dS.fair _
end Go.Proofs.YthhldfpmhmocfaaGreatDoor
namespace Go.Proofs.YthhldfpmhmocfaaGreatDoor
structure bQ where
 w:ByteArray
 r:ByteArray
 from_:Int
 id:Int
def vP (l:List bQ)(a b:ByteArray):Bool:=l.any fun p=>decide (p.w=a∧p.r=b)
def dA (i:Nat)(t:ax)(l:List bQ)(f:ay):List bQ:=match aC t f.id with
 | none=>l
 | some g=>if f.kind=5∧g.kind=5∧vP l f.type g.type=false then l++[⟨f.type,g.type,i,f.id⟩] else l
def jF (w r:av):Nat→Nat→List bQ→List bQ
 | 0,_,l=>l
 | k+1,i,l=>match l[i]? with
  | none=>l
  | some p=>jF w r k (i+1) ((typeOf w p.w).fields.foldl (dA i (typeOf r p.r)) l)
def gu (w r:av)(name:ByteArray):List bQ:=jF w r 18 0 [⟨name,name,-1,0⟩]
def numsOf (w:av)(f:ay):List Int:=if f.kind=1 then [0,1] else if f.kind=4 then (typeOf w f.type).items.map (·.n) else [0,1,2,3,4,5,6]
def okN (r:av)(g:ay)(n:Int):Bool:=if g.kind=1 then decide (n=0∨n=1) else if g.kind=4 then jT (typeOf r g.type) n else true
def nN (w r:av)(f g:ay):Option Int:=(numsOf w f).find? fun n => !okN r g n
def Ou (w r:av)(f g:ay):List Int:=if kindOf f.kind≠kindOf g.kind then [1] else if kindOf f.kind=0∧(nN w r f g).isSome=true then [3] else []
def Qu (f g:ay):List Int:=if f.rule=3∧g.rule≠3 then [2] else []
def lq (w r:av)(f g:ay):List Int:=bL (fun a b=>decide (a<b)) (Ou w r f g++Qu f g)
def iH (w r:av)(name:ByteArray):Int:=if aB w≠0∨aB r≠0 then 1 else if dW w name=true∨dW r name=true then 3 else 0
def iJ (w r:av)(p:bQ)(f:ay):List aX:=match aC (typeOf r p.r) f.id with
 | none=>[]
 | some g=>(lq w r f g).map fun y=>⟨p.w,f.id,y⟩
def lm (w r:av)(name:ByteArray):List aX:=(gu w r name).flatMap fun p=>(typeOf w p.w).fields.flatMap (iJ w r p)
def og (a b:aX):Bool:=decide (ltS a.type b.type)||(decide (a.type=b.type)&&(decide (a.id<b.id)||(decide (a.id=b.id)&&decide (a.why<b.why))))
def kE:List aX→List aX
 | []=>[]
 | [x]=>[x]
 | x::y::l=>if x=y then kE (y::l) else x::kE (y::l)
def dH (w r:av)(name:ByteArray):List aX × Int:=if iH w r name≠0 then ([],iH w r name) else (kE (bL og (lm w r name)),0)
mutual
def iy (r:av):Nat→ax→aj→aj
 | 0,_,_=>.zero
 | k+1,t,v=>vI ((t.fields.flatMap (jb r k v.ids v.l)).map (·.1)) ((t.fields.flatMap (jb r k v.ids v.l)).map (·.2))
def jb (r:av):Nat→List Int→List aj→ay→List (Int × aj)
 | k,ids,l,f=>if dV ids f.id=false∧f.rule=1 then [(f.id,aL r 4 f)] else ((ids.zip l).filter fun p=>decide (p.1=f.id)).map fun p=>(p.1,if f.kind=5 then iy r k (typeOf r f.type) p.2 else p.2)
end
theorem xB {α:Type}[DecidableEq α]:∀ (L M:List α),L.Nodup→(∀ x∈L,x∈M)→L.length≤M.length
 | [],_,_,_=>Nat.zero_le _
 | x::L,M,hn,hm=>by
  have hx:x∈M:=hm x (List.mem_cons_self ..);obtain⟨h1,h2⟩:=List.nodup_cons.1 hn;have ih:=xB L (M.erase x) h2 fun y hy=>(List.mem_erase_of_ne (by rintro rfl;exact h1 hy)).2 (hm y (List.mem_cons_of_mem _ hy))
  rw[List.length_erase_of_mem hx] at ih;have:0<M.length:=List.length_pos_of_mem hx;simp only[List.length_cons];omega
def Ry (p:bQ):ByteArray × ByteArray:=(p.w,p.r)
def ic (w r:av)(l:List bQ):Prop:=(l.map Ry).Nodup∧∀ p∈l,(aM w p.w).isSome=true∧(aM r p.r).isSome=true
theorem Be {b:av}{n:ByteArray}(h:(aM b n).isSome=true):n∈b.map (·.name):=by
 obtain⟨t,ht⟩:=Option.isSome_iff_exists.1 h;unfold aM at ht;have hm:=List.mem_of_find?_eq_some ht;have hq:=List.find?_some ht;simp only[decide_eq_true_eq] at hq;rw[←hq];exact List.mem_map_of_mem hm
theorem aie {w r:av}{l:List bQ}(h:ic w r l):l.length≤w.length*r.length:=by
 have:=xB (l.map Ry) ((w.map (·.name)).flatMap fun a=>(r.map (·.name)).map fun b=>(a,b)) h.1 fun x hx=>by
  obtain⟨p,hp,rfl⟩:=List.mem_map.1 hx;exact List.mem_flatMap.2 ⟨p.w,Be (h.2 p hp).1,List.mem_map.2 ⟨p.r,Be (h.2 p hp).2,rfl⟩⟩
 rw[List.length_map] at this;refine Nat.le_trans this ?_;rw[List.length_flatMap];have e:∀ l:List ByteArray,((l.map fun a=>((r.map (·.name)).map fun b=>(a,b)).length).sum)=l.length*r.length:=by
  intro l
  induction l with
  | nil=>simp
  | cons x l ih =>
   simp only[List.length_map] at ih;simp only[List.map_cons,List.sum_cons,List.length_map,List.length_cons,Nat.add_mul,Nat.one_mul,ih];omega
 rw[e,List.length_map];exact Nat.le_refl _
theorem PE {l:List bQ}{a b:ByteArray}:vP l a b=true↔(a,b)∈l.map Ry:=by
 unfold vP;rw[List.any_eq_true,List.mem_map];constructor
 ·rintro⟨p,hp,h⟩;simp only[decide_eq_true_eq] at h;exact⟨p,hp,by unfold Ry;rw[h.1,h.2]⟩
 ·rintro⟨p,hp,h⟩;unfold Ry at h;injection h with h1 h2
  exact⟨p,hp,by simp[h1,h2]⟩
theorem Ta {w r:av}{l:List bQ}(hl:ic w r l){i:Nat}{t:ax}{f:ay}(hf:f.kind=5→(aM w f.type).isSome=true)(hg:∀ g,aC t f.id=some g→g.kind=5→(aM r g.type).isSome=true):ic w r (dA i t l f):=by
 unfold dA;split
 ·exact hl
 ·rename_i g hgg
  split
  ·rename_i h
   obtain⟨h1,h2,h3⟩:=h;refine⟨?_,fun p hp=>?_⟩
   ·rw[List.map_append,List.map_singleton];refine List.nodup_append.2 ⟨hl.1,by simp,fun a ha b hb=>?_⟩;rw[List.mem_singleton] at hb;subst hb;rintro rfl;have:vP l f.type g.type=true:=PE.2 ha;rw[h3] at this;cases this
   ·rcases List.mem_append.1 hp with hp | hp
    ·exact hl.2 p hp
    ·rw[List.mem_singleton.1 hp];exact⟨hf h1,hg g hgg h2⟩
  ·exact hl
theorem zg {b:av}(hg:aB b=0){t:ax}(ht:t∈b){f:ay}(hf:f∈t.fields)(h5:4≤f.kind):(aM b f.type).isSome=true:=by
 cases he:t.enum with
 | true =>
  have:=(fE hg ht he).2.2.2.1;rw[List.eq_nil_of_length_eq_zero this] at hf;cases hf
 | false=>exact((bC (bq hg ht he) hf).2.2.2.2.2.2.2.2 h5).1
theorem dB {b:av}{n:ByteArray}(h:(aM b n).isSome=true):typeOf b n∈b:=by
 obtain⟨t,ht⟩:=Option.isSome_iff_exists.1 h;unfold typeOf;rw[ht];unfold aM at ht;exact List.mem_of_find?_eq_some ht
theorem rE {t:ax}{id:Int}{f:ay}(h:aC t id=some f):f∈t.fields:=by
 unfold aC at h;exact List.mem_of_find?_eq_some h
theorem BZ {w r:av}(hw:aB w=0)(hr:aB r=0){p:bQ}(hp:(aM w p.w).isSome=true∧(aM r p.r).isSome=true){i:Nat}:∀ (fs:List ay) (l:List bQ),(∀ f∈fs,f∈(typeOf w p.w).fields)→ic w r l→ic w r (fs.foldl (dA i (typeOf r p.r)) l)
 | [],_,_,h=>h
 | f::fs,l,hm,h=>by
  rw[List.foldl_cons];refine BZ hw hr hp fs _ (fun f hf=>hm f (List.mem_cons_of_mem _ hf)) (Ta h (fun h5=>?_) (fun g hg h5=>?_))
  ·exact zg hw (dB hp.1) (hm f (List.mem_cons_self ..)) (by omega)
  ·exact zg hr (dB hp.2) (rE hg) (by omega)
theorem xP (i:Nat)(t:ax):∀ (fs:List ay) (l:List bQ),∃ m,fs.foldl (dA i t) l=l++m
 | [],l=>⟨[],by simp⟩
 | f::fs,l=>by
  rw[List.foldl_cons];obtain⟨m,hm⟩:=xP i t fs (dA i t l f);have:∃ m',dA i t l f=l++m':=by
   unfold dA;split
   ·exact⟨[],by simp⟩
   ·split
    ·exact⟨_,rfl⟩
    ·exact⟨[],by simp⟩
  obtain⟨m',hm'⟩:=this;exact⟨m'++m,by rw[hm,hm',List.append_assoc]⟩
theorem qg {b:av}{n:ByteArray}(h:dW b n=false):(aM b n).isSome=true∧(typeOf b n).enum=false:=by
 unfold dW at h;unfold typeOf;cases hf:aM b n with
 | none=>rw[hf] at h;cases h
 | some t=>rw[hf] at h;exact⟨rfl,h⟩
theorem iK {w r:av}{name:ByteArray}(h1:dW w name=false)(h2:dW r name=false):ic w r [⟨name,name,-1,0⟩] :=
 ⟨by simp,fun p hp=>by rw[List.mem_singleton.1 hp];exact⟨(qg h1).1,(qg h2).1⟩⟩
theorem sixteen {w r:av}(hw:aB w=0)(hr:aB r=0){l:List bQ}(h:ic w r l):l.length≤16:=by
 have:=aie h;have a:=(fJ hw).1;have b:=(fJ hr).1;have:w.length*r.length≤4*4:=Nat.mul_le_mul a b;omega
theorem kY {w r:av}(hw:aB w=0)(hr:aB r=0):∀ (k i:Nat) (l:List bQ),ic w r l→ic w r (jF w r k i l)
 | 0,_,_,h=>h
 | k+1,i,l,h=>by
  rw[jF];split
  ·exact h
  ·rename_i p hp
   exact kY hw hr k (i+1) _ (BZ hw hr (h.2 p (List.mem_of_getElem? hp)) _ _ (fun _ h=>h) h)
structure iP where
 there:Bool
 enum:Bool
 field:ay
 item:ByteArray
 deriving DecidableEq
def noS:iP:=⟨false,false,.zero,⟨#[]⟩⟩
def iM (was a b:iP):iP × Bool:=if a=b∨b=was then (a,true) else if a=was then (b,true) else (was,false)
def nT (b:av)(name:ByteArray):iP:=⟨(aM b name).isSome,(typeOf b name).enum,.zero,⟨#[]⟩⟩
def bI (t:ax)(id:Int):iP:=⟨(aC t id).isSome,false,(aC t id).getD .zero,⟨#[]⟩⟩
def oC (t:ax)(id:Int):iP:=⟨dV t.gone id,false,.zero,⟨#[]⟩⟩
def oQ (t:ax)(n:Int):Option dC:=t.items.find? fun x=>decide (x.n=n)
def mh (t:ax)(n:Int):iP:=match oQ t n with
 | some x=>⟨true,false,.zero,x.name⟩
 | none=>noS
def vW (out:List ByteArray)(x:ByteArray):List ByteArray:=if mK out x then out else out++[x]
def Uk (l:List ByteArray):List ByteArray:=l.foldl vW []
def vE (l:List ByteArray):List ByteArray:=((l.map bytes).mergeSort fun x y=>decide (x≤y)).map fun b=>⟨b.toArray⟩
def uj (l:List Int):List Int:=l.mergeSort fun x y=>decide (x≤y)
def jl (l:List av):List ByteArray:=vE (Uk (l.flatMap fun b=>b.map (·.name)))
def dE (l:List ax):List Int:=Lib.compact (uj (l.flatMap fun t=>t.items.map (·.n)))
def jN:List Int:=(List.range 30).map fun (k:Nat)=>(k:Int)+1
section
variable (x y z:ax)(name:ByteArray)
def fT (id:Int):iP × Bool:=iM (bI x id) (bI y id) (bI z id)
def gT (id:Int):iP × Bool:=iM (oC x id) (oC y id) (oC z id)
def iT (n:Int):iP × Bool:=iM (mh x n) (mh y n) (mh z n)
def ui (id:Int):Bool:=!(fT x y z id).2||((fT x y z id).1.there&&(gT x y z id).1.there)
def dL (id:Int):List ay:=if ui x y z id=true then [] else if (fT x y z id).1.there=true then [(fT x y z id).1.field] else []
def lh (id:Int):List Int:=if ui x y z id=true then [] else if (fT x y z id).1.there=true then [] else if (gT x y z id).1.there=true then [id] else []
def nR (id:Int):List aX:=if ui x y z id=true then [⟨name,id,0⟩] else []
def iX (n:Int):List dC:=if (iT x y z n).2=false then [] else if (iT x y z n).1.there=true then [⟨(iT x y z n).1.item,n⟩] else []
def qa (n:Int):List aX:=if (iT x y z n).2=false then [⟨name,n,0⟩] else []
def yo:ax:=⟨name,false,jN.flatMap (dL x y z),jN.flatMap (lh x y z),(dE [x,y,z]).flatMap (iX x y z)⟩
def zD:List aX:=jN.flatMap (nR x y z name)++(dE [x,y,z]).flatMap (qa x y z name)
end
def Eo (k:iP)(t:ax):Bool :=
 (!k.there&&(decide (0<t.fields.length+t.gone.length)||decide (0<t.items.length)))||(k.there&&k.enum&&decide (0<t.fields.length+t.gone.length))||(k.there && !k.enum&&decide (0<t.items.length))
section
variable (was a b:av)(name:ByteArray)
def kT:iP × Bool:=iM (nT was name) (nT a name) (nT b name)
def tyT:ax:={ yo (typeOf was name) (typeOf a name) (typeOf b name) name with enum:=(kT was a b name).1.enum }
def tyL:List aX:=zD (typeOf was name) (typeOf a name) (typeOf b name) name
def fG:List ax × List aX :=
 if (kT was a b name).2=false then ([],[⟨name,0,0⟩])
 else if 0<(tyL was a b name).length then ([],tyL was a b name)
 else if Eo (kT was a b name).1 (tyT was a b name)=true then ([],[⟨name,0,0⟩])
 else if (kT was a b name).1.there=true then ([tyT was a b name],[]) else ([],[])
end
def yA (was a b:av):av:=(jl [was,a,b]).flatMap fun n=>(fG was a b n).1
def Ub (was a b:av):List aX:=(jl [was,a,b]).flatMap fun n=>(fG was a b n).2
def fC (was a b:av):av × List aX × Int :=
 if aB was≠0∨aB a≠0∨aB b≠0 then ([],[],1)
 else if 0<(Ub was a b).length then ([],Ub was a b,9)
 else if aB (yA was a b)≠0 then ([],[],aB (yA was a b))
 else (yA was a b,[],0)
end Go.Proofs.YthhldfpmhmocfaaGreatDoor
namespace Go.Proofs.YthhldfpmhmocfaaGreatDoor
theorem aaG {l:List ByteArray}{x:ByteArray}:mK l x=true↔x∈l:=by unfold mK;simp
theorem KM:∀ (l out:List ByteArray),out.Nodup→(l.foldl vW out).Nodup∧∀ x,x∈l.foldl vW out↔x∈out∨x∈l
 | [],out,h=>⟨h,by simp⟩
 | y::l,out,h=>by
  have hy:(vW out y).Nodup∧∀ x,x∈vW out y↔x∈out∨x=y:=by
   unfold vW
   by_cases hh:mK out y=true
   ·rw[if_pos hh];refine⟨h,fun x=>⟨.inl,?_⟩⟩;rintro(h | rfl)
    ·exact h
    ·exact aaG.1 hh
   ·rw[if_neg hh];refine⟨?_,by simp⟩;rw[List.nodup_append];refine⟨h,by simp,?_⟩;intro a ha b hb e;have:b=y:=by simpa using hb
    subst this;subst e;exact hh (aaG.2 ha)
  rw[List.foldl_cons];have:=KM l (vW out y) hy.1;refine⟨this.1,fun x=>?_⟩;rw[this.2,hy.2,List.mem_cons,or_assoc]
theorem ajN {l:List ByteArray}{x:ByteArray}:x∈Uk l↔x∈l:=by
 have:=(KM l [] .nil).2 x;simpa[Uk] using this
theorem afk {l:List ByteArray}{x:ByteArray}:x∈vE l↔x∈l:=by
 unfold vE;constructor
 ·intro h;obtain⟨b,hb,rfl⟩:=List.mem_map.1 h;rw[(List.mergeSort_perm _ _).mem_iff] at hb;obtain⟨y,hy,rfl⟩:=List.mem_map.1 hb;exact hy
 ·intro h;refine List.mem_map.2 ⟨bytes x,?_,rfl⟩;rw[(List.mergeSort_perm _ _).mem_iff];exact List.mem_map.2 ⟨x,h,rfl⟩
theorem pQ {l:List av}{n:ByteArray}:n∈jl l↔∃ b∈l,∃ t∈b,t.name=n:=by
 unfold jl;rw[afk,ajN,List.mem_flatMap];simp only[List.mem_map]
theorem DZ {zs:List Int}(h:zs.Pairwise (· ≤ ·)):(Lib.compact zs).Pairwise (· < ·)∧∀ x,x∈Lib.compact zs↔x∈zs:=by
 have hle:∀ i j,i≤j→j<zs.length→zs.toArray[i]!≤zs.toArray[j]! := by
  intro i j hij hj;have e:∀ k (hk:k<zs.length),zs.toArray[k]! = zs[k]:=fun k hk=>by
   rw[getElem!_pos zs.toArray k (by simpa using hk)];simp
  rw[e i (by omega),e j hj];rcases Nat.lt_or_ge i j with h' | h'
  ·exact List.pairwise_iff_getElem.1 h i j (by omega) hj h'
  ·have:i=j:=by omega
   subst this;exact Int.le_refl _
 refine⟨?_,fun x=>?_⟩
 ·unfold Lib.compact Lib.compactUpTo;rw[List.pairwise_map];have hr:(List.range zs.length).Pairwise (· < ·):=List.pairwise_lt_range;refine(hr.filter (Lib.keeps zs.toArray)).imp_of_mem ?_;intro i j _ hj hij;have hj':=List.mem_filter.1 hj;have hjl:j<zs.length:=List.mem_range.1 hj'.1;have hk:j=0∨zs.toArray[j]!≠zs.toArray[j-1]! := by simpa[Lib.keeps] using hj'.2
  have h1:=hle i (j-1) (by omega) (by omega);have h2:=hle (j-1) j (by omega) hjl;rcases hk with hk | hk
  ·omega
  ·omega
 ·unfold Lib.compact Lib.compactUpTo;have e:∀ k (hk:k<zs.length),zs.toArray[k]! = zs[k]:=fun k hk=>by
   rw[getElem!_pos zs.toArray k (by simpa using hk)];simp
  simp only[List.mem_map,List.mem_filter,List.mem_range];constructor
  ·rintro⟨j,⟨hj,_⟩,rfl⟩;rw[e j hj];exact List.getElem_mem hj
  ·intro hx;obtain⟨j,hj,rfl⟩:=List.getElem_of_mem hx;have:∀ j,j<zs.length→∃ i,(i<zs.length∧Lib.keeps zs.toArray i=true)∧zs.toArray[i]! = zs.toArray[j]! := by
    intro j
    induction j with
    | zero=>intro h0;exact⟨0,⟨h0,by simp[Lib.keeps]⟩,rfl⟩
    | succ j ih =>
     intro hj
     by_cases hk:Lib.keeps zs.toArray (j+1)=true
     ·exact⟨j+1,⟨hj,hk⟩,rfl⟩
     ·obtain⟨i,hi,he⟩:=ih (by omega);refine⟨i,hi,he.trans ?_⟩;simp[Lib.keeps] at hk;simpa using hk.symm
   obtain⟨i,hi,he⟩:=this j hj;exact⟨i,hi,by rw[he,e j hj]⟩
theorem Li (w a b:iP):(iM w a b).1=w∨(iM w a b).1=a∨(iM w a b).1=b:=by
 unfold iM;split
 ·exact .inr (.inl rfl)
 ·split
  ·exact .inr (.inr rfl)
  ·exact .inl rfl
theorem sD {t:ax}{n:Int}{x:dC}(h:oQ t n=some x):x∈t.items∧x.n=n:=by
 have h1:=List.mem_of_find?_eq_some h;have h2:=List.find?_some h;exact⟨h1,by simpa using h2⟩
section
variable {w a b R:av}
end
end Go.Proofs.YthhldfpmhmocfaaGreatDoor
namespace Go.Proofs.YthhldfpmhmocfaaGreatDoor
theorem ja {b:av}{f:ay}{x:aj}(h:eO b f x=0):x.kind=kindOf f.kind∧vV x=false:=by
 unfold eO at h;split at h
 ·simp at h
 ·split at h
  ·simp at h
  ·rename_i h1 h2
   exact⟨by simpa using h1,by simpa using h2⟩
theorem rD {v:aj}:vV v=false↔(v.kind≠2→v.ids=[]∧v.l=[])∧(v.kind≠0→v.n=0)∧(v.kind≠1→v.s.size=0):=by
 unfold vV;simp only[decide_eq_false_iff_not,not_or,not_and,Decidable.not_not,Nat.not_lt,Nat.le_zero_eq,Nat.add_eq_zero_iff,List.length_eq_zero_iff]
theorem Am {n:Nat}:∀ {l:List aj},(∀ x∈l,aD x≤n)→gJ l≤n
 | [],_=>by simp[gJ]
 | y::l,h=>by
  rw[gJ];have:=h y (by simp);have:=Am (l:=l) (fun x hx=>h x (by simp[hx]));omega
def yE (b:av)(k:Nat)(f:ay):Prop:=f.kind=5→1≤aZ b k f.type
def jU (t:ax):List ay:=t.fields.filter fun g=>decide (g.rule=1)
theorem mY {t:ax}{f:ay}:f∈jU t↔f∈t.fields∧f.rule=1:=by simp[jU]
def Cv (b:av)(k:Nat)(f:ay):Nat:=if f.kind=5 then aZ b k f.type else 1
theorem tq {rec:ByteArray→Nat}:∀ (l:List ay) (n:Nat),1≤dz rec l n →
  (∀ f∈l,f.rule=1→f.kind=5→1≤rec f.type)∧dz rec l n=n+((l.filter fun g=>decide (g.rule=1)).map fun f=>if f.kind=5 then rec f.type else 1).sum
 | [],n,_=>by simp[dz]
 | f::l,n,h=>by
  rw[dz] at h ⊢
  by_cases h1:f.rule=1
  ·rw[if_pos h1] at h ⊢
   by_cases h5:f.kind=5
   ·rw[if_pos h5] at h ⊢
    by_cases h0:rec f.type=0
    ·rw[if_pos h0] at h;omega
    ·rw[if_neg h0] at h ⊢;obtain⟨a,c⟩:=tq l _ h;refine⟨?_,?_⟩
     ·intro g hg;rcases List.mem_cons.1 hg with rfl | hg
      ·intro _ _;omega
      ·exact a g hg
     ·rw[c,List.filter_cons,if_pos (by simpa using h1),List.map_cons,List.sum_cons,if_pos h5];omega
   ·rw[if_neg h5] at h ⊢;obtain⟨a,c⟩:=tq l _ h;refine⟨?_,?_⟩
    ·intro g hg;rcases List.mem_cons.1 hg with rfl | hg
     ·intro _ h;exact absurd h h5
     ·exact a g hg
    ·rw[c,List.filter_cons,if_pos (by simpa using h1),List.map_cons,List.sum_cons,if_neg h5];omega
  ·rw[if_neg h1] at h ⊢;obtain⟨a,c⟩:=tq l _ h;refine⟨?_,?_⟩
   ·intro g hg;rcases List.mem_cons.1 hg with rfl | hg
    ·intro h;exact absurd h h1
    ·exact a g hg
   ·rw[c,List.filter_cons,if_neg (by simpa using h1)]
theorem sN {b:av}{k:Nat}{name:ByteArray}(h:1≤aZ b (k+1) name) :
  ∃ t,aM b name=some t∧t.enum=false∧(∀ f∈jU t,yE b k f)∧aZ b (k+1) name=1+((jU t).map (Cv b k)).sum:=by
 rw[aZ] at h ⊢;cases hf:aM b name with
 | none=>rw[hf] at h;simp at h
 | some t =>
  rw[hf] at h;simp only at h ⊢;split at h
  ·simp at h
  ·rename_i h1
   rw[if_neg h1];obtain⟨a,c⟩:=tq _ _ h;refine⟨t,rfl,by simpa using(not_or.1 h1).1,fun f hf=>?_,c⟩;rw[mY] at hf;exact a f hf.1 hf.2
theorem vL {b:av}:∀ (k:Nat) (name:ByteArray),1≤aZ b k name→aZ b (k+1) name=aZ b k name
 | 0,name,h=>by simp[aZ] at h
 | k+1,name,h=>by
  have key:∀ (l:List ay) (n:Nat),1≤dz (aZ b k) l n→dz (aZ b (k+1)) l n=dz (aZ b k) l n:=by
   intro l
   induction l with
   | nil=>intro n _;rfl
   | cons f l ih =>
    intro n h;have e:=(tq _ _ h).1 f (by simp);rw[dz] at h;rw[dz,dz]
    by_cases h1:f.rule=1
    ·rw[if_pos h1] at h ⊢;rw[if_pos h1]
     by_cases h5:f.kind=5
     ·rw[if_pos h5] at h ⊢;rw[if_pos h5,vL k f.type (e h1 h5)]
      by_cases h0:aZ b k f.type=0
      ·rw[if_pos h0,if_pos h0]
      ·rw[if_neg h0] at h ⊢;rw[if_neg h0];exact ih _ h
     ·rw[if_neg h5] at h ⊢;rw[if_neg h5];exact ih _ h
    ·rw[if_neg h1] at h ⊢;rw[if_neg h1];exact ih _ h
  rw[aZ] at h ⊢
  conv=>rhs;rw[aZ]
  cases hf:aM b name with
  | none=>rfl
  | some t =>
   rw[hf] at h;simp only at h ⊢;split at h
   ·simp at h
   ·rename_i h1
    rw[if_neg h1,if_neg h1];exact key _ _ h
theorem qM {b:av}{k:Nat}{f:ay}(h:f.kind=5):aL b (k+1) f=iE b k (typeOf b f.type):=by
 rw[aL,if_neg (by omega),if_neg (by omega),if_pos h];rfl
theorem IR {b:av}{k:Nat}:∀ (l:List ay),(∀ f∈l,aW (aL b k f)=Cv b k f)→cO (l.map (aL b k))=(l.map (Cv b k)).sum
 | [],_=>rfl
 | f::l,h=>by
  rw[List.map_cons,cO,List.map_cons,List.sum_cons,h f (by simp),IR l (fun g hg=>h g (by simp[hg]))]
theorem yX {b:av}:∀ (k:Nat) (f:ay),yE b k f→aW (aL b k f)=Cv b k f
 | k,f,h=>by
  unfold Cv
  by_cases h5:f.kind=5
  ·rw[if_pos h5];have h1:=h h5;cases k with
   | zero=>simp[aZ] at h1
   | succ k =>
    obtain⟨t,ht,_,he,hc⟩:=sN h1;rw[qM h5,hc,typeOf,ht,iE,vI,aW];have:=IR (b:=b) (k:=k) (jU t) (fun g hg=>yX k g (he g hg));unfold jU at this;simp only[Option.getD_some];rw[this];unfold jU;omega
  ·rw[if_neg h5,aL.eq_def];split
   ·rfl
   ·split
    ·rfl
    ·rfl
theorem vz {b:av}:∀ (k:Nat) (f:ay),aD (aL b k f)≤k+1
 | k,f=>by
  by_cases h5:f.kind=5
  ·cases k with
   | zero=>rw[aL,if_neg (by omega),if_neg (by omega),if_pos h5];simp[aj.zero,aD,gJ]
   | succ k =>
    rw[qM h5,iE,vI,aD];have:=Am (n:=k+1) (l:=(((typeOf b f.type).fields.filter fun g=>decide (g.rule=1)).map (aL b k))) (fun x hx=>by
     obtain⟨g,_,rfl⟩:=List.mem_map.1 hx;exact vz k g)
    omega
  ·rw[aL.eq_def];split
   ·simp[aD,gJ]
   ·split
    ·simp[aD,gJ]
    ·simp[aj.zero,aD,gJ]
theorem Nt {α β γ:Type}{f:α→β}{g:α→γ}:∀ {l:List α} {p:β × γ},p∈(l.map f).zip (l.map g)→∃ x∈l,p=(f x,g x)
 | [],p,h=>by simp at h
 | a::l,p,h=>by
  simp only[List.map_cons,List.zip_cons_cons,List.mem_cons] at h;rcases h with rfl | h
  ·exact⟨a,by simp,rfl⟩
  ·obtain⟨x,hx,e⟩:=Nt h;exact⟨x,by simp[hx],e⟩
theorem uw {t:ax}{i j:Int}(h:i<j):mR t i j:=⟨by omega,fun e=>by omega⟩
theorem JY {b:av}{t:ax}(hm:dU b t){k:Nat}(h:∀ f∈jU t,eO b f (aL b k f)=0∧(f.kind=5→cz b (typeOf b f.type) (aL b k f)=0)):cz b t (iE b k t)=0:=by
 rw[iO];refine⟨rfl,by simp[iE,vI,aj.ids,aj.l],rfl,rfl,?_,?_,?_,?_⟩
 ·intro id hid;obtain⟨f,hf,rfl⟩:=List.mem_map.1 hid;rw[jB hm (List.mem_filter.1 hf).1];rfl
 ·show ((t.fields.filter fun g=>decide (g.rule=1)).map (·.id)).Pairwise (mR t);rw[List.pairwise_map];exact((qo hm).filter _).imp fun h=>uw h
 ·intro p hp;obtain⟨f,hf,rfl⟩:=Nt hp;unfold vR;simp only[jB hm (List.mem_filter.1 hf).1,Option.getD_some];exact h f hf
 ·show qV t ((t.fields.filter fun g=>decide (g.rule=1)).map (·.id))=true;unfold qV;rw[List.all_eq_true];intro f hf
  by_cases h1:f.rule=1
  ·have:dV ((t.fields.filter fun g=>decide (g.rule=1)).map (·.id)) f.id=true:=ow.2 (List.mem_map.2 ⟨f,by simp[hf,h1],rfl⟩);rw[this];simp
  ·simp[h1]
theorem yh {b:av}(hg:aB b=0):∀ (k:Nat) (f:ay),iC b f→yE b k f→eO b f (aL b k f)=0∧(f.kind=5→cz b (typeOf b f.type) (aL b k f)=0)
 | k,f,hf,he=>by
  by_cases h5:f.kind=5
  ·have h1:=he h5;cases k with
   | zero=>simp[aZ] at h1
   | succ k =>
    obtain⟨t,ht,_,hen,_⟩:=sN h1;obtain⟨t2,ht2,hty,_,_,_,hm⟩:=gZ hg hf h5;obtain rfl:t=t2:=by rw[ht] at ht2;exact Option.some.inj ht2
    rw[qM h5,hty];refine⟨?_,fun _=>JY hm fun g hgm=>yh hg k g (bC hm (mY.1 hgm).1) (hen g hgm)⟩;unfold eO;have e1:(iE b k t).kind=2:=rfl;have e2:vV (iE b k t)=false:=rD.2 ⟨fun h=>absurd rfl h,fun _=>rfl,fun _=>rfl⟩;rw[if_neg (by rw[e1,h5];decide),if_neg (by rw[e2];decide),if_neg (by omega),if_neg (by omega),if_neg (by omega),if_neg (by omega)]
  ·refine⟨?_,fun h=>absurd h h5⟩;obtain⟨_,_,_,k1,k2,_⟩:=id hf;unfold eO
   by_cases h3:f.kind=3
   ·have e:aL b k f=.mk 1 0 ⟨#[]⟩ [] []:=by rw[aL.eq_def,if_pos h3]
    rw[e,h3];rfl
   ·by_cases h4:f.kind=4
    ·obtain⟨t,ht,hty,_,hen⟩:=rY hg hf h4;have e:aL b k f=.mk 0 (((typeOf b f.type).items.head?.map (·.n)).getD 0) ⟨#[]⟩ [] []:=by rw[aL.eq_def,if_neg h3,if_pos h4]
     have hit:0<t.items.length:=by have:=hen.2.1;omega
     have hh:(t.items.head?.map (·.n)).getD 0=t.items[0].n:=by rw[List.head?_eq_getElem?,List.getElem?_eq_getElem hit];rfl
     rw[e,hty,hh];have hmean:jT ((aM b f.type).getD .zero) t.items[0].n=true:=by
      rw[ht];exact List.any_eq_true.2 ⟨t.items[0],List.getElem_mem _,by simp⟩
     have e2:vV (.mk 0 t.items[0].n ⟨#[]⟩ [] [])=false:=rD.2 ⟨fun _=>⟨rfl,rfl⟩,fun h=>absurd rfl h,fun _=>rfl⟩;rw[if_neg (by rw[h4];exact fun h=>h rfl),if_neg (by rw[e2];decide),if_neg (by omega),if_neg (by omega),if_neg (by omega),if_pos h4];exact if_pos hmean
    ·have e:aL b k f=.zero:=by rw[aL.eq_def,if_neg h3,if_neg h4,if_neg h5]
     rw[e];have e2:vV .zero=false:=rfl;have e3:kindOf f.kind=0:=by unfold kindOf;rw[if_neg h3,if_neg h5]
     rw[if_neg (by rw[e3];exact fun h=>h rfl),if_neg (by rw[e2];decide)];have:f.kind=1∨f.kind=2:=by omega
     rcases this with h | h
     ·rw[if_pos h];rfl
     ·rw[if_neg (by omega),if_pos h];rfl
theorem oz {b:av}(hg:aB b=0){t:ax}(hm:dU b t){f:ay}(hf:f∈t.fields):yE b 4 f:=by
 intro h5;obtain⟨t2,_,_,hmem,hn,he,_⟩:=gZ hg (bC hm hf) h5;have:=uD hg hmem he;rw[hn] at this;omega
theorem Jg {b:av}{f:ay}{x:aj}(h5:f.kind=5)(h1:x.kind=2)(h2:x.n=0)(h3:x.s.size=0):eO b f x=0:=by
 unfold eO;have e2:vV x=false:=rD.2 ⟨fun h=>absurd h1 h,fun _=>h2,fun _=>h3⟩;rw[if_neg (by rw[h1,h5];decide),if_neg (by rw[e2];decide),if_neg (by omega),if_neg (by omega),if_neg (by omega),if_neg (by omega)]
structure Held (b:av) (t:ax) (last:Option Int) (ai:List Int) (al:List aj):Prop where
 len:ai.length=al.length
 known:∀ id∈ai,(aC t id).isSome=true
 order:ai.Pairwise (mR t)
 fit:∀ p∈ai.zip al,vR b t p.1 p.2
 up:∀ i∈ai,∃ k,last=some k∧i≤k
theorem Held.on {b:av}{t:ax}{last:Option Int}{ai:List Int}{al:List aj}(h:Held b t last ai al){id:Int}(hf:nQ last id=false):Held b t (some id) ai al :=
 ⟨h.len,h.known,h.order,h.fit,fun i hi=>by
  obtain⟨k,hk,hik⟩:=h.up i hi;subst hk;have:¬ id<k:=by simpa[nQ] using hf
  exact⟨id,rfl,by omega⟩⟩
theorem Held.put {b:av}{t:ax}{last:Option Int}{ai:List Int}{al:List aj}(h:Held b t last ai al){id:Int}(hf:nQ last id=false){f:ay}(hff:aC t id=some f)(ht:¬ (f.rule≠3∧dV ai id=true))
  {x:aj} (hx:eO b f x=0) (hx5:f.kind=5→cz b (typeOf b f.type) x=0):Held b t (some id) (ai++[id]) (al++[x]):=by
 have h':=h.on hf;refine⟨by simp[h.len],?_,?_,?_,?_⟩
 ·intro i hi;rcases List.mem_append.1 hi with hi | hi
  ·exact h.known i hi
  ·simp at hi;subst hi;rw[hff];rfl
 ·rw[List.pairwise_append];refine⟨h.order,by simp,?_⟩;intro i hi j hj;simp at hj;subst hj;obtain⟨k,hk,hik⟩:=h'.up i hi;cases hk;refine⟨hik,?_⟩;rintro rfl;rw[hff]
  by_cases h3:f.rule=3
  ·exact h3
  ·exact absurd ⟨h3,ow.2 hi⟩ ht
 ·intro p hp;rw[List.zip_append h.len] at hp;rcases List.mem_append.1 hp with hp | hp
  ·exact h.fit p hp
  ·simp at hp;subst hp;unfold vR;simp only[hff,Option.getD_some];exact⟨hx,hx5⟩
 ·intro i hi;rcases List.mem_append.1 hi with hi | hi
  ·exact h'.up i hi
  ·simp at hi;exact⟨id,rfl,by omega⟩
def QB (p:Part):Nat:=p.s.size+1
theorem nM:∀ (a b:List aj),cO (a++b)=cO a+cO b
 | [],b=>by simp[cO]
 | x::a,b=>by rw[List.cons_append,cO,cO,nM a b];omega
theorem ZJ (p:Part):aW (mO p)=1:=by simp[mO,aW,cO]
theorem ZR (p:Part):aD (mO p)=1:=by simp[mO,aD,gJ]
theorem BH {b:av}{t:ax}{rec:ax→List UInt8→aj × Int}{D:Nat}(hD:1≤D)(hgf:∀ f∈t.fields,iC b f)
  (hr:∀ f s,iC b f→f.kind=5→(rec (typeOf b f.type) s).2=0→cz b (typeOf b f.type) (rec (typeOf b f.type) s).1=0∧aW (rec (typeOf b f.type) s).1≤12+12*s.length∧aD (rec (typeOf b f.type) s).1≤D) :
  ∀ (ps:List Part) (last:Option Int) (ai:List Int) (al:List aj),Held b t last ai al→(∀ x∈al,aD x≤D)→(gm b rec t last ps ai al).2=0 →
  (∃ last',Held b t last' (gm b rec t last ps ai al).1.1 (gm b rec t last ps ai al).1.2)∧(∀ x∈(gm b rec t last ps ai al).1.2,aD x≤D)∧cO (gm b rec t last ps ai al).1.2≤cO al+12*(ps.map QB).sum
 | [],last,ai,al,h,hd,_=>⟨⟨last,h⟩,hd,by simp[gm]⟩
 | p::ps,last,ai,al,h,hd,he=>by
  rw[gm] at he ⊢;rw[List.map_cons,List.sum_cons]
  by_cases h1:nQ last p.id=true
  ·rw[if_pos h1] at he;simp at he
  ·rw[if_neg h1] at he ⊢;have hfa:nQ last p.id=false:=by simpa using h1
   cases hff:aC t p.id with
   | none =>
    rw[hff] at he;simp only at he ⊢;obtain⟨a1,a2,a3⟩:=BH hD hgf hr ps _ ai al (h.on hfa) hd he;exact⟨a1,a2,by omega⟩
   | some f =>
    rw[hff] at he;simp only at he ⊢
    by_cases h2:eO b f (mO p)=0
    ·rw[if_neg (by simpa using h2)] at he ⊢
     by_cases h3:f.rule≠3∧dV ai p.id=true
     ·rw[if_pos h3] at he;simp at he
     ·rw[if_neg h3] at he ⊢
      by_cases h5:f.kind=5
      ·rw[if_pos h5] at he ⊢
       by_cases h6:(rec (typeOf b f.type) (bytes p.s)).2=0
       ·rw[if_neg (by simpa using h6)] at he ⊢;obtain⟨r1,r2,r3⟩:=hr f _ (hgf f (bE hff).1) h5 h6;have ht:=(iO b _ _).1 r1;obtain⟨a1,a2,a3⟩:=BH hD hgf hr ps _ _ _ (h.put hfa hff h3 (Jg h5 ht.1 ht.2.2.1 ht.2.2.2.1) (fun _=>r1)) (fun x hx=>by
         rcases List.mem_append.1 hx with hx | hx
         ·exact hd x hx
         ·simp at hx;subst hx;exact r3) he
        refine⟨a1,a2,?_⟩;rw[nM] at a3;simp only[cO,iY] at a3 r2;unfold QB at a3 ⊢;omega
       ·rw[if_pos h6] at he;exact absurd he h6
      ·rw[if_neg h5] at he ⊢;obtain⟨a1,a2,a3⟩:=BH hD hgf hr ps _ _ _ (h.put hfa hff h3 h2 (fun h=>absurd h h5)) (fun x hx=>by
        rcases List.mem_append.1 hx with hx | hx
        ·exact hd x hx
        ·simp at hx;subst hx;rw[ZR];exact hD) he
       refine⟨a1,a2,?_⟩;rw[nM] at a3;simp only[cO,ZJ] at a3;unfold QB at a3 ⊢;omega
    ·rw[if_pos h2] at he;exact absurd he h2
theorem tQ {b:av}{k:Nat}{ids:List Int}{l:List aj}{f:ay}{p:Int × aj}(h:p∈eQ b k ids l f):p.1=f.id∧((p=(f.id,aL b k f)∧f.rule=1)∨p∈ids.zip l):=by
 unfold eQ at h;rcases List.mem_append.1 h with h | h
 ·split at h
  ·rename_i h1
   simp at h;subst h;exact⟨rfl,.inl ⟨rfl,h1.1⟩⟩
  ·simp at h
 ·simp only[List.mem_filter,decide_eq_true_eq] at h;exact⟨h.2,.inr h.1⟩
theorem XZ {b:av}(hg:aB b=0){t:ax}(hm:dU b t){last:Option Int}{ids:List Int}{l:List aj}(h:Held b t last ids l):cz b t (kz b 4 t ids l)=0:=by
 rw[iO];have hmem:∀ p∈t.fields.flatMap (eQ b 4 ids l),∃ f∈t.fields,p∈eQ b 4 ids l f:=fun p hp=>by simpa using hp
 refine⟨rfl,by simp[kz,vI,aj.ids,aj.l],rfl,rfl,?_,?_,?_,?_⟩
 ·intro id hid;obtain⟨p,hp,rfl⟩:=List.mem_map.1 hid;obtain⟨f,hf,hpf⟩:=hmem p hp;rw[(tQ hpf).1,jB hm hf];rfl
 ·show ((t.fields.flatMap (eQ b 4 ids l)).map (·.1)).Pairwise (mR t);rw[List.pairwise_map,List.pairwise_flatMap];refine⟨?_,?_⟩
  ·intro f hf;unfold eQ;have hfl:((ids.zip l).filter fun p=>decide (p.1=f.id)).Pairwise (fun p q=>mR t p.1 q.1):=(DW ids l h.order).filter _;split
   ·rename_i h1
    have:((ids.zip l).filter fun p=>decide (p.1=f.id))=[]:=by
     rw[List.filter_eq_nil_iff];intro p hp;simp only[decide_eq_true_eq];intro e;have h2:=h1.2;rw[←e,ow.2 (List.of_mem_zip hp).1] at h2;cases h2
    rw[this];simp
   ·rw[List.nil_append];exact hfl
  ·refine(qo hm).imp fun {f g} hfg p hp q hq=>?_
   rw[(tQ hp).1,(tQ hq).1];exact uw hfg
 ·intro p hp;have hz:p∈t.fields.flatMap (eQ b 4 ids l):=by
   have:∀ (L:List (Int × aj)),(L.map (·.1)).zip (L.map (·.2))=L:=by
    intro L;induction L with
    | nil=>rfl
    | cons a L ih=>simp[ih]
   have hp':p∈((t.fields.flatMap (eQ b 4 ids l)).map (·.1)).zip ((t.fields.flatMap (eQ b 4 ids l)).map (·.2)):=hp
   rwa [this] at hp'
  obtain⟨f,hf,hpf⟩:=hmem p hz;obtain⟨e,h1 | h1⟩:=tQ hpf
  ·rw[h1.1];unfold vR;simp only[jB hm hf,Option.getD_some];exact yh hg 4 f (bC hm hf) (oz hg hm hf)
  ·exact h.fit p h1
 ·show qV t ((t.fields.flatMap (eQ b 4 ids l)).map (·.1))=true;unfold qV;rw[List.all_eq_true];intro f hf
  by_cases h1:f.rule=1
  ·have:dV ((t.fields.flatMap (eQ b 4 ids l)).map (·.1)) f.id=true:=by
    rw[ow,List.mem_map]
    by_cases h2:dV ids f.id=true
    ·have h2':=ow.1 h2;obtain⟨i,hi,he⟩:=List.getElem_of_mem h2';refine⟨(ids[i],l[i]'(by have:=h.len;omega)),List.mem_flatMap.2 ⟨f,hf,?_⟩,he⟩;unfold eQ;refine List.mem_append.2 (.inr (List.mem_filter.2 ⟨?_,by simpa using he⟩));exact List.mem_iff_getElem.2 ⟨i,by have:=h.len;simp;omega,by simp⟩
    ·refine⟨(f.id,aL b 4 f),List.mem_flatMap.2 ⟨f,hf,?_⟩,rfl⟩;unfold eQ;refine List.mem_append.2 (.inl ?_);rw[if_pos ⟨h1,by simpa using h2⟩];simp
   rw[this];simp
  ·simp[h1]
theorem Xk {b:av}(hg:aB b=0){t:ax}(ht:t∈b)(hfi:aM b t.name=some t)(he:t.enum=false){last:Option Int}{ids:List Int}{l:List aj}(h:Held b t last ids l):aW (kz b 4 t ids l)≤12+cO l:=by
 have hm:=bq hg ht he;have h1:=uD hg ht he;obtain⟨t2,ht2,_,hen,hc⟩:=sN (k:=4) (by rw[vL 4 t.name h1.1];exact h1.1);obtain rfl:t=t2:=by rw[hfi] at ht2;exact Option.some.inj ht2
 rw[vL 4 t.name h1.1] at hc;have key:∀ (F:List ay),(∀ f∈F,f∈t.fields)→cO ((F.flatMap (eQ b 4 ids l)).map (·.2))≤((F.filter fun g=>decide (g.rule=1)).map (Cv b 4)).sum+cO ((F.flatMap (fun f=>(ids.zip l).filter fun p=>decide (p.1=f.id))).map (·.2)):=by
  intro F
  induction F with
  | nil=>intro _;simp[cO]
  | cons f F ih =>
   intro hF;have ih:=ih (fun g hg=>hF g (by simp[hg]));rw[List.flatMap_cons,List.map_append,nM,List.flatMap_cons,List.map_append,nM]
   conv=>lhs;lhs;unfold eQ
   rw[List.map_append,nM]
   by_cases hr:f.rule=1
   ·have ef:(f::F).filter (fun g=>decide (g.rule=1))=f::F.filter (fun g=>decide (g.rule=1)):=by simp[hr]
    rw[ef,List.map_cons (f:=Cv b 4),List.sum_cons];have:cO ((if f.rule=1∧dV ids f.id=false then [(f.id,aL b 4 f)] else []).map (·.2))≤Cv b 4 f:=by
     split
     ·simp only[List.map_cons,List.map_nil,cO];rw[yX 4 f (hen f (mY.2 ⟨hF f (by simp),hr⟩))];omega
     ·simp[cO]
    omega
   ·have ef:(f::F).filter (fun g=>decide (g.rule=1))=F.filter (fun g=>decide (g.rule=1)):=by simp[hr]
    rw[ef,if_neg (fun h=>hr h.1)];simp only[List.map_nil,cO];omega
 have k1:=key t.fields (fun f hf=>hf);have e2:t.fields.flatMap (fun f=>(ids.zip l).filter fun p=>decide (p.1=f.id))=ids.zip l:=by
  have:t.fields.flatMap (fun f=>(ids.zip l).filter fun p=>decide (p.1=f.id))=(t.fields.map (·.id)).flatMap (fun i=>(ids.zip l).filter fun p=>decide (p.1=i)):=by
   rw[List.flatMap_map]
  rw[this];refine sZ _ _ ?_ ((DW ids l h.order).imp fun h=>h.1) ?_
  ·rw[List.pairwise_map];exact qo hm
  ·intro p hp;obtain⟨f,hf⟩:=Option.isSome_iff_exists.1 (h.known p.1 (List.of_mem_zip hp).1);have:=bE hf;exact List.mem_map.2 ⟨f,this.1,this.2⟩
 rw[e2,OZ _ _ h.len] at k1;unfold kz vI;rw[aW];unfold jU at hc;omega
theorem Xc {b:av}{t:ax}{ids:List Int}{l:List aj}{D:Nat}(hD:5≤D)(h:∀ x∈l,aD x≤D):aD (kz b 4 t ids l)≤D+1:=by
 unfold kz vI;rw[aD];have:=Am (n:=D) (l:=(t.fields.flatMap (eQ b 4 ids l)).map (·.2)) (fun x hx=>by
  obtain⟨p,hp,rfl⟩:=List.mem_map.1 hx;obtain⟨f,hf,hpf⟩:=List.mem_flatMap.1 hp;obtain⟨_,h1 | h1⟩:=tQ hpf
  ·rw[h1.1];have:=vz (b:=b) 4 f;simp only;omega
  ·exact h _ (List.of_mem_zip h1).2)
 omega
theorem aiT (b:av)(t:ax):Held b t none [] []:=⟨rfl,by simp,by simp,by simp,by simp⟩
theorem akB (n:Nat):1≤(sev n).length:=by
 have:=ajD n;cases h:sev n with
 | nil=>exact absurd h this
 | cons a l=>simp
theorem ahf {p:Part}(h:iW p=true):QB p≤(lN p).length:=by
 have hb:=yK h;unfold QB lN;have:=akB (4*p.id+p.kind).toNat;rw[List.length_append]
 by_cases hk:p.kind=0
 ·have:=hb.2.2.2.2.2.2.2.1 hk;rw[if_pos hk];omega
 ·rw[if_neg hk,List.length_append,iY];omega
theorem Su:∀ (l:List Part),(∀ p∈l,iW p=true)→(l.map QB).sum≤(l.flatMap lN).length
 | [],_=>by simp
 | p::l,h=>by
  rw[List.map_cons,List.sum_cons,List.flatMap_cons,List.length_append];have:=ahf (h p (by simp));have:=Su l (fun q hq=>h q (by simp[hq]));omega
theorem adT {s:List UInt8}(h:(mV s).2=0):((mV s).1.map QB).sum≤s.length:=by
 have h1:=VH (s:=s) (l:=(mV s).1) (by rw[←h]);obtain⟨e1,e2,_⟩:=Jp _ _ _ h1;have:=Su _ e2;rw[List.nil_append] at e1;have:=congrArg List.length e1;omega
theorem KJ {b:av}(hg:aB b=0):∀ (k:Nat) (t:ax) (s:List UInt8),t∈b→aM b t.name=some t→t.enum=false→(iN b k t s).2=0 →
  cz b t (iN b k t s).1=0∧aW (iN b k t s).1≤12+12*s.length∧aD (iN b k t s).1≤k+5
 | 0,t,s,_,_,_,h=>by simp[iN] at h
 | k+1,t,s,ht,hfi,hen,h=>by
  have hm:=bq hg ht hen;rw[iN] at h ⊢
  by_cases h1:(mV s).2=0
  ·rw[if_neg (by simpa using h1)] at h ⊢
   by_cases h2:(gm b (iN b k) t none (mV s).1 [] []).2=0
   ·rw[if_neg (by simpa using h2)];obtain⟨⟨last,hh⟩,hd,hc⟩:=BH (D:=k+5) (by omega) (fun f hf=>bC hm hf) (fun f s' hf h5 hr=>by
     obtain⟨t2,a1,a2,a3,a4,a5,a6⟩:=gZ hg hf h5;rw[a2] at hr ⊢;exact KJ hg k t2 s' a3 (by rw[a4];exact a1) a5 hr) (mV s).1 none [] [] (aiT b t) (by simp) h2
    refine⟨XZ hg hm hh,?_,?_⟩
    ·have:=Xk hg ht hfi hen hh;have:=adT h1;simp only[cO] at hc;show aW (kz b 4 t _ _)≤_;omega
    ·have:=Xc (b:=b) (t:=t) (ids:=(gm b (iN b k) t none (mV s).1 [] []).1.1) (D:=k+5) (by omega) hd;show aD (kz b 4 t _ _)≤_;omega
   ·rw[if_pos h2] at h;exact absurd h h2
  ·rw[if_pos h1] at h;exact absurd h h1
theorem gK {b:av}{name:ByteArray}(h:dW b name=false):∃ t,aM b name=some t∧typeOf b name=t∧t∈b∧t.name=name∧t.enum=false:=by
 unfold dW at h;cases hf:aM b name with
 | none=>rw[hf] at h;cases h
 | some t =>
  rw[hf] at h;exact⟨t,rfl,by rw[typeOf,hf];rfl,(eU hf).1,(eU hf).2,h⟩
theorem nX {b:av}{name:ByteArray}{v:aj}(h:dQ b name v=0):aB b=0∧dW b name=false∧jA v=true∧cz b (typeOf b name) v=0:=by
 unfold dQ at h;split at h
 ·simp at h
 ·split at h
  ·simp at h
  ·split at h
   ·simp at h
   ·rename_i h1 h2 h3
    exact⟨by simpa using h1,by simpa using h2,by simpa using h3,h⟩
theorem pR {v:aj}:jA v=true↔aD v≤24∧aW v≤400:=by unfold jA;simp
theorem Kz {b:av}{name:ByteArray}{s:List UInt8}(h:(fZ b name s).2=0):dQ b name (fZ b name s).1=0:=by
 unfold fZ at h ⊢;split at h
 ·simp at h
 ·rename_i h1
  split at h
  ·simp at h
  ·rename_i h2
   split at h
   ·rename_i h3;exact absurd h h3
   ·rename_i h3
    split at h
    ·simp at h
    ·rename_i h4
     rw[if_neg h1,if_neg h2,if_neg h3,if_neg h4];have hg:aB b=0:=by simpa using h1
     obtain⟨t,e1,e2,hm,e3,he⟩:=gK (b:=b) (name:=name) (by simpa using h2);unfold dQ;rw[if_neg h1,if_neg h2,if_neg h4];rw[e2] at h3 ⊢;exact(KJ hg 24 t s hm (by rw[e3];exact e1) he (by simpa using h3)).1
theorem EP {b:av}(hg:aB b=0){name:ByteArray}(hn:dW b name=false)(s:List UInt8):aW (iN b 24 (typeOf b name) s).1≤240012∧aD (iN b 24 (typeOf b name) s).1≤29:=by
 obtain⟨t,e1,e2,hm,e3,he⟩:=gK hn;rw[e2]
 by_cases h:(iN b 24 t s).2=0
 ·obtain⟨_,a,c⟩:=KJ hg 24 t s hm (by rw[e3];exact e1) he h;have:s.length≤20000:=by
   rw[iN] at h
   by_cases h1:(mV s).2=0
   ·unfold mV at h1;split at h1
    ·simp at h1
    ·omega
   ·rw[if_pos h1] at h;exact absurd h h1
  omega
 ·have:(iN b 24 t s).1=.zero:=by
   rw[iN] at h ⊢;split
   ·rfl
   ·split
    ·rfl
    ·rename_i h1 h2
     rw[if_neg h1,if_neg h2] at h;exact absurd rfl h
  rw[this];simp[aj.zero,aW,cO,aD,gJ]
theorem pJ:∀ (k k':Nat) (l:List UInt8),l.length≤k→l.length≤k'→jJ k l=jJ k' l
 | 0,k',l,h,_=>by
  obtain rfl:l=[]:=List.eq_nil_of_length_eq_zero (by omega);cases k' <;> rfl
 | k+1,k',[],_,_=>by cases k' <;> rfl
 | k+1,0,c::l,_,h=>by simp at h
 | k+1,k'+1,c::l,h,h'=>by
  have h1:l.length≤k:=by simpa using h
  have h2:l.length≤k':=by simpa using h'
  have hd:∀ p:UInt8→Bool,(l.dropWhile p).length≤l.length:=fun p=>(List.dropWhile_suffix p).length_le
  rw[jJ,jJ,pJ k k' l h1 h2,pJ k k' (l.dropWhile isLet) (by have:=hd isLet;omega) (by have:=hd isLet;omega),pJ k k' (l.dropWhile jK) (by have:=hd jK;omega) (by have:=hd jK;omega)]
def Bw (p:UInt8→Bool)(l:List UInt8):Prop:=∀ c,l.head? = some c→p c=false
theorem LP {p:UInt8→Bool}{w l:List UInt8}(ha:∀ c∈w,p c=true)(hl:Bw p l):(w++l).takeWhile p=w∧(w++l).dropWhile p=l:=by
 rw[List.takeWhile_append_of_pos ha,List.dropWhile_append_of_pos ha];cases l with
 | nil=>simp
 | cons c l =>
  have:=hl c rfl;simp[List.takeWhile_cons,List.dropWhile_cons,this]
theorem uT:∀ (k u:Nat),u<10 ^ (k+1)→(Lib.decDigits u).length≤k+1
 | 0,u,h=>by rw[Lib.decDigits,dif_pos (by simpa using h)];simp
 | k+1,u,h=>by
  rw[Lib.decDigits];split
  ·simp
  ·have:=uT k (u / 10) (by rw[Nat.pow_succ] at h;omega);simp only[List.length_append,List.length_singleton];omega
theorem Qn {n:Int}(h1 : -1099511627776≤n)(h2:n≤1099511627776):(Lib.itoa n).length≤14:=by
 unfold Lib.itoa;split
 ·have:=uT 12 n.natAbs (by omega);simp only[List.length_cons];omega
 ·have:=uT 12 n.toNat (by omega);omega
def qE (s:ByteArray):Prop:=bytes s≠[]∧∀ c∈bytes s,isLet c=true
theorem BN {s:ByteArray}(h:bJ s=true):qE s:=by
 unfold bJ at h;simp only[Bool.and_eq_true,decide_eq_true_eq,List.all_eq_true] at h;refine⟨fun e=>?_,fun c hc=>?_⟩
 ·have:(bytes s).length=s.size:=rfl;rw[e] at this;have:=h.1.2.1;simp at *;omega
 ·have:=h.1.1 c hc;simpa[isLet] using this
theorem Fq {s:ByteArray}(h:bJ s=true):(bytes s).length≤12:=by
 unfold bJ at h;simp only[Bool.and_eq_true,decide_eq_true_eq] at h;exact h.1.2.2
theorem acs {s:ByteArray}(h:bJ s=true):mK rZ s=false:=by
 unfold bJ at h;simp only[Bool.and_eq_true] at h;simpa using h.2
def FQ (f:ay):Prop:=qE f.name∧1≤f.id∧f.id≤30∧1≤f.kind∧f.kind≤5∧1≤f.rule∧f.rule≤3∧(f.kind<4→f.type=⟨#[]⟩)∧(4≤f.kind→qE f.type∧mK rZ f.type=false)
theorem tO {b:av}(hg:aB b=0){t:ax}(ht:t∈b)(he:t.enum=false){f:ay}(hf:f∈t.fields):FQ f:=by
 obtain⟨hn,h1,h30,hk1,hk5,hr1,hr3,hk⟩:=bC (bq hg ht he) hf;refine⟨BN hn,h1,h30,hk1,hk5,hr1,hr3,fun h4=>?_,fun h4=>?_⟩
 ·have h0:(bytes f.type).length=0:=hk.1 h4;exact qb (List.eq_nil_of_length_eq_zero h0)
 ·obtain⟨hs,_⟩:=hk.2 h4;obtain⟨t2,h2⟩:=Option.isSome_iff_exists.1 hs;unfold aM at h2;have hm:=List.mem_of_find?_eq_some h2;have hq:=List.find?_some h2;simp only[decide_eq_true_eq] at hq;obtain⟨_,hT,_⟩:=fJ hg;obtain⟨i,hi,rfl⟩:=List.getElem_of_mem hm;have hn2:=(hT i hi).1;rw[hq] at hn2;exact⟨BN hn2,acs hn2⟩
theorem yS {b:av}(hg:aB b=0):pU b=(b.flatMap bV,0):=by unfold pU;rw[if_neg (by simp[hg])]
theorem Ro {α:Type}(f:α→List UInt8)(m:Nat):∀ (l:List α),(∀ x∈l,(f x).length≤m)→(l.flatMap f).length≤l.length*m
 | [],_=>by simp
 | x::l,h=>by
  rw[List.flatMap_cons,List.length_append,List.length_cons,Nat.add_mul,Nat.one_mul];have:=Ro f m l (fun y hy=>h y (by simp[hy]));have:=h x (by simp);omega
theorem aiC {x:dC}(hn:bJ x.name=true)(h1 : -1099511627776≤x.n)(h2:x.n≤1099511627776):(iw x).length≤31:=by
 have:=Qn h1 h2;have:=Fq hn;unfold iw;simp only[List.length_append,List.length_cons,List.length_nil];omega
theorem aiK {n:Int}(h1:1≤n)(h2:n≤30):(Lib.itoa n).length≤2:=by
 unfold Lib.itoa;rw[if_neg (by omega)];exact uT 1 n.toNat (by omega)
theorem agp {f:ay}(h:FQ f)(hn:bJ f.name=true)(ht:(bytes f.type).length≤12):(fI f).length≤38:=by
 obtain⟨_,h1,h30,hk1,hk5,hr1,hr3,_⟩:=h;have:=aiK h1 h30;have:=Fq hn;have hr:(bytes (lC f)).length≤5:=by
  have:f.rule=1∨f.rule=2∨f.rule=3:=by omega
  unfold lC;rcases this with e | e | e <;> rw[e] <;> decide
 have hk:(bytes (kindName f)).length≤12:=by
  unfold kindName;split
  ·have:f.kind=1∨f.kind=2∨f.kind=3:=by omega
   rcases this with e | e | e <;> rw[e] <;> decide
  ·exact ht
 unfold fI;simp only[List.length_append,List.length_cons,List.length_nil];omega
theorem ahU {b:av}(hg:aB b=0){t:ax}(ht:t∈b):(bV t).length≤400:=by
 obtain⟨_,hT,_⟩:=fJ hg;have hn:(bytes t.name).length≤12:=by
  obtain⟨i,hi,rfl⟩:=List.getElem_of_mem ht;exact Fq (hT i hi).1
 unfold bV;cases he:t.enum with
 | true =>
  obtain⟨hit,_,h6,_⟩:=fE hg ht he;have hs:=Ro iw 31 t.items (fun x hx=>by
   obtain⟨i,h,rfl⟩:=List.getElem_of_mem hx;exact aiC (hit i h).1 (hit i h).2.1 (hit i h).2.2.1)
  have h2:t.items.length*31≤6*31:=Nat.mul_le_mul_right _ h6;have e:(bytes yu).length=4:=rfl;simp only[if_true,List.length_append,List.length_cons,List.length_nil];omega
 | false =>
  obtain⟨h5,_,hg30,hgone,hfs⟩:=bq hg ht he;have hs:=Ro fI 38 t.fields (fun f hf=>by
   have hf':=tO hg ht he hf;have hfp:=bC (bq hg ht he) hf;refine agp hf' hfp.1 ?_
   by_cases h4:f.kind<4
   ·rw[hf'.2.2.2.2.2.2.2.1 h4];decide
   ·have hk:=(hfp.2.2.2.2.2.2.2.2 (by omega)).1;obtain⟨t2,h2⟩:=Option.isSome_iff_exists.1 hk;unfold aM at h2;have hm:=List.mem_of_find?_eq_some h2;have hq:=List.find?_some h2;simp only[decide_eq_true_eq] at hq;obtain⟨i,hi,rfl⟩:=List.getElem_of_mem hm;rw[←hq];exact Fq (hT i hi).1)
  have h2:t.fields.length*38≤5*38:=Nat.mul_le_mul_right _ h5;have hgl:(gU t.gone).length≤98:=by
   unfold gU;split
   ·simp
   ·have hs2:=Ro (fun n=>32::Lib.itoa n) 3 t.gone (fun n hn=>by
     obtain⟨i,h,rfl⟩:=List.getElem_of_mem hn;have:=hgone i h;have:=aiK (n:=t.gone[i]) (by omega) (by omega);simp only[List.length_cons];omega)
    have h3:t.gone.length*3≤30*3:=Nat.mul_le_mul_right _ hg30;simp only[List.length_append,List.length_cons,List.length_nil];omega
  have e:(bytes lH).length=7:=rfl;simp only[Bool.false_eq_true,if_false,List.length_append,List.length_cons,List.length_nil];omega
theorem Ap {b:av}(hg:aB b=0):(b.flatMap bV).length≤1600:=by
 have h1:=Ro bV 400 b (fun t ht=>ahU hg ht);have h2:b.length*400≤4*400:=Nat.mul_le_mul_right _ (fJ hg).1;omega
structure fD where
 book:av
 parents:List Int
 deriving DecidableEq
structure gD where
 name:ByteArray
 commit:Int
 policy:Int
 deriving DecidableEq
def gD.zero:gD:=⟨⟨#[]⟩,0,0⟩
structure mG where
 kind:Int
 n:Int
 m:Int
 name:ByteArray
 other:ByteArray
 text:ByteArray
structure kR where
 code:Int
 n:Int
 text:ByteArray
 flaws:List aX
 deriving DecidableEq
structure cK where
 cs:List fD
 rs:List gD
 acts:Int
def cK.new:cK:=⟨[],[],0⟩
def dY (e:Int):kR:=⟨e,0,⟨#[]⟩,[]⟩
def oJ (n:Int):kR:=⟨0,n,⟨#[]⟩,[]⟩
def kG (l:List fD)(i:Nat):List Int:=((l[i]?).map (·.parents)).getD []
def ib (l:List fD)(i:Int):av:=((l[i.toNat]?).map (·.book)).getD []
def nK (i:Nat)(m:List Bool)(p:Int):List Bool:=if 0≤p∧p<i then m.set p.toNat true else m
def kD (l:List fD):Nat→List Bool→List Int
 | 0,_=>[]
 | i+1,m=>if m.getD i false then (i:Int)::kD l i ((kG l i).foldl (nK i) m) else kD l i m
def dZ (l:List fD)(n:Int):List Int :=
 if n<0∨l.length≤n then [] else (kD l (n.toNat+1) ((List.replicate l.length false).set n.toNat true)).reverse
def iR:List (List aX)→List aX
 | []=>[]
 | f::r=>if f=[] then iR r else f
def abB (l:List fD)(policy c a:Int)(t:ax):List (List aX) :=
 (if policy % 2=1 then [(dH (ib l a) (ib l c) t.name).1] else [])++(if 2≤policy then [(dH (ib l c) (ib l a) t.name).1] else [])
def Ga (l:List fD)(policy c a:Int):List (List aX):=if a=c then [] else (ib l a).flatMap (abB l policy c a)
def ji (l:List fD)(n policy:Int):List aX :=
 if policy=0 then [] else iR ((dZ l n).flatMap fun c=>(dZ l c).flatMap (Ga l policy c))
def xz (l:List fD)(a b:Int):Int:=(((dZ l a).filter fun n=>dV (dZ l b) n).getLast?).getD (-1)
def fB (rs:List gD)(name:ByteArray):Nat:=(rs.takeWhile fun x=>decide (ltS x.name name)).length
def qJ (rs:List gD)(name:ByteArray):Bool:=decide (((rs[fB rs name]?).map (·.name))=some name)
def fH (rs:List gD)(k:Nat):gD:=(rs[k]?).getD .zero
def rF (rs:List gD)(k:Nat)(n:Int):List gD:=rs.set k { fH rs k with commit:=n }
def wP (s:cK)(k:Nat)(b:av)(ps:List Int):kR × cK :=
 if 40≤s.cs.length then (dY 12,s)
 else if ji (s.cs++[⟨b,ps⟩]) s.cs.length (fH s.rs k).policy≠[] then (⟨8,0,⟨#[]⟩,ji (s.cs++[⟨b,ps⟩]) s.cs.length (fH s.rs k).policy⟩,s)
 else (oJ s.cs.length,⟨s.cs++[⟨b,ps⟩],rF s.rs k s.cs.length,s.acts⟩)
def eY (rs:List gD)(k:Nat)(x:gD):List gD:=rs.take k++x::rs.drop k
def pV (rs:List gD)(k:Nat):List gD:=rs.take k++rs.drop (k+1)
def uP (s:cK)(a:mG):kR × cK :=
 if bJ a.name=false then (dY 1,s)
 else if (iZ (bytes a.text)).2≠0 then (dY (iZ (bytes a.text)).2,s)
 else if qJ s.rs a.name=true then
  (if (fH s.rs (fB s.rs a.name)).commit≠a.n then (dY 10,s) else wP s (fB s.rs a.name) (iZ (bytes a.text)).1 [a.n])
 else if a.n ≠ -1 then (dY 10,s)
 else if 6≤s.rs.length then (dY 12,s)
 else
  let x:=wP ⟨s.cs,eY s.rs (fB s.rs a.name) ⟨a.name,-1,0⟩,s.acts⟩ (fB s.rs a.name) (iZ (bytes a.text)).1 []
  if x.1.code≠0 then (x.1,⟨x.2.cs,pV x.2.rs (fB s.rs a.name),x.2.acts⟩) else x
def isC (s:cK)(n:Int):Bool:=decide (0≤n∧n<s.cs.length)
def lJ (s:cK)(a:mG):Int × cK :=
 if bJ a.name=false then (1,s)
 else if isC s a.n=false then (3,s)
 else if qJ s.rs a.name=true then (4,s)
 else if 6≤s.rs.length then (12,s)
 else (0,⟨s.cs,eY s.rs (fB s.rs a.name) ⟨a.name,a.n,0⟩,s.acts⟩)
def zC (s:cK)(k:Nat)(other:Int):kR × cK :=
 let own:=(fH s.rs k).commit
 let n:=xz s.cs own other
 let r:=fC (if 0≤n then ib s.cs n else []) (ib s.cs own) (ib s.cs other)
 if r.2.2≠0 then (⟨r.2.2,0,⟨#[]⟩,r.2.1⟩,s) else wP s k r.1 [own,other]
def moveF (s:cK)(k:Nat)(to:Int):kR × cK :=
 if isC s to=false then (dY 3,s)
 else if ji s.cs to (fH s.rs k).policy≠[] then (⟨8,0,⟨#[]⟩,ji s.cs to (fH s.rs k).policy⟩,s)
 else (oJ to,⟨s.cs,rF s.rs k to,s.acts⟩)
def uQ (s:cK)(k:Nat)(a:mG):kR × cK :=
 if a.kind=6 then (oJ (fH s.rs k).commit,⟨s.cs,pV s.rs k,s.acts⟩)
 else if a.kind=3 then
  (if a.n<0∨3<a.n then (dY 2,s)
  else if ji s.cs (fH s.rs k).commit a.n≠[] then (⟨8,0,⟨#[]⟩,ji s.cs (fH s.rs k).commit a.n⟩,s)
  else (oJ (fH s.rs k).commit,⟨s.cs,s.rs.set k { fH s.rs k with policy:=a.n },s.acts⟩))
 else if (fH s.rs k).commit≠a.n then (dY 10,s)
 else if a.kind=4 then
  (if qJ s.rs a.other=false then (dY 3,s)
  else if dV (dZ s.cs (fH s.rs k).commit) (fH s.rs (fB s.rs a.other)).commit=true then (oJ (fH s.rs k).commit,s)
  else if dV (dZ s.cs (fH s.rs (fB s.rs a.other)).commit) (fH s.rs k).commit=false then zC s k (fH s.rs (fB s.rs a.other)).commit
  else moveF s k (fH s.rs (fB s.rs a.other)).commit)
 else moveF s k a.m
def Nh (s:cK)(a:mG):kR :=
 if isC s a.n=false then dY 3
 else if (pU (ib s.cs a.n)).2≠0 then dY (pU (ib s.cs a.n)).2
 else ⟨0,(kG s.cs a.n.toNat).length,⟨(pU (ib s.cs a.n)).1.toArray⟩,[]⟩
def CL (s:cK)(a:mG):kR :=
 if isC s a.n=false∨isC s a.m=false then dY 3
 else if (fZ (ib s.cs a.n) a.other (bytes a.text)).2≠0 then dY (fZ (ib s.cs a.n) a.other (bytes a.text)).2
 else
  let r:=fZ (ib s.cs a.m) a.other (bytes a.text)
  if r.2≠0 then dY r.2
  else if (iF (ib s.cs a.m) a.other r.1).2≠0 then dY (iF (ib s.cs a.m) a.other r.1).2
  else ⟨0,r.1.l.length,⟨(iF (ib s.cs a.m) a.other r.1).1.toArray⟩,[]⟩
def zw (s:cK)(a:mG):kR × cK :=
 if a.kind=1 then uP s a
 else if a.kind=2 then (dY (lJ s a).1,(lJ s a).2)
 else if 3≤a.kind∧a.kind≤6 then (if qJ s.rs a.name=false then (dY 3,s) else uQ s (fB s.rs a.name) a)
 else if a.kind=7 then (Nh s a,s)
 else if a.kind=8 then (CL s a,s)
 else (dY 11,s)
def doF (s:cK)(a:mG):kR × cK :=
 if 200≤s.acts then (dY 12,s) else zw ⟨s.cs,s.rs,s.acts+1⟩ a
structure gY (s:cK):Prop where
 books:∀ c∈s.cs,aB c.book=0
 parents:∀ i (h:i<s.cs.length),s.cs[i].parents.length≤2∧∀ p∈s.cs[i].parents,0≤p∧p<i
 refs:∀ r∈s.rs,0≤r.commit∧r.commit<s.cs.length∧0≤r.policy∧r.policy≤3∧bJ r.name=true
 sorted:s.rs.Pairwise fun x y=>ltS x.name y.name
 most:s.cs.length≤40∧s.rs.length≤6∧0≤s.acts∧s.acts≤200
end Go.Proofs.YthhldfpmhmocfaaGreatDoor
