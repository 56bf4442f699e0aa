/- Walks and plain laws. -/
import Derived.Test.YtknnhpkjgnkcdaaGreatDoorBase
import Derived.Lib.SlicesCompact
set_option linter.all false
namespace Go.Proofs.YtknnhpkjgnkcdaaGreatDoor
section
open Go.RowKit
structure aX where
 type:ByteArray
 id:Int
 why:Int
 deriving DecidableEq
def dh (f:aX):List Value:=[.string f.type,O f.id,O f.why]
def aU:Rel aX:=dS dh
theorem aU.fair:Fair aU:=dS.fair _
end
section
structure bQ where
 w:ByteArray
 r:ByteArray
 from_:Int
 id:Int
def vP (l:List bQ)(a b:ByteArray):Bool:=l.any fun p=>decide (p.w=a∧p.r=b)
def dA (i:Nat)(t:ax)(l:List bQ)(f:ay):List bQ:=match aC t f.id with
 | none=>l
 | some g=>if f.kind=5∧g.kind=5∧vP l f.type g.type=false then l++[⟨f.type,g.type,i,f.id⟩] else l
def jF (w r:av):Nat→Nat→List bQ→List bQ
 | 0,_,l=>l
 | k+1,i,l=>match l[i]? with
  | none=>l
  | some p=>jF w r k (i+1) ((typeOf w p.w).fields.foldl (dA i (typeOf r p.r)) l)
def gu (w r:av)(name:ByteArray):List bQ:=jF w r 18 0 [⟨name,name,-1,0⟩]
def numsOf (w:av)(f:ay):List Int:=if f.kind=1 then [0,1] else if f.kind=4 then (typeOf w f.type).items.map (·.n) else [0,1,2,3,4,5,6]
def okN (r:av)(g:ay)(n:Int):Bool:=if g.kind=1 then decide (n=0∨n=1) else if g.kind=4 then jT (typeOf r g.type) n else true
def nN (w r:av)(f g:ay):Option Int:=(numsOf w f).find? fun n => !okN r g n
def Ou (w r:av)(f g:ay):List Int:=if kindOf f.kind≠kindOf g.kind then [1] else if kindOf f.kind=0∧(nN w r f g).isSome=true then [3] else []
def Qu (f g:ay):List Int:=if f.rule=3∧g.rule≠3 then [2] else []
def lq (w r:av)(f g:ay):List Int:=bL (fun a b=>decide (a<b)) (Ou w r f g++Qu f g)
def iH (w r:av)(name:ByteArray):Int:=if aB w≠0∨aB r≠0 then 1 else if dW w name=true∨dW r name=true then 3 else 0
def iJ (w r:av)(p:bQ)(f:ay):List aX:=match aC (typeOf r p.r) f.id with
 | none=>[]
 | some g=>(lq w r f g).map fun y=>⟨p.w,f.id,y⟩
def lm (w r:av)(name:ByteArray):List aX:=(gu w r name).flatMap fun p=>(typeOf w p.w).fields.flatMap (iJ w r p)
def og (a b:aX):Bool:=decide (ltS a.type b.type)||(decide (a.type=b.type)&&(decide (a.id<b.id)||(decide (a.id=b.id)&&decide (a.why<b.why))))
def kE:List aX→List aX
 | []=>[]
 | [x]=>[x]
 | x::y::l=>if x=y then kE (y::l) else x::kE (y::l)
def dH (w r:av)(name:ByteArray):List aX × Int:=if iH w r name≠0 then ([],iH w r name) else (kE (bL og (lm w r name)),0)
mutual
def iy (r:av):Nat→ax→aj→aj
 | 0,_,_=>.zero
 | k+1,t,v=>vI ((t.fields.flatMap (jb r k v.ids v.l)).map (·.1)) ((t.fields.flatMap (jb r k v.ids v.l)).map (·.2))
def jb (r:av):Nat→List Int→List aj→ay→List (Int × aj)
 | k,ids,l,f=>if dV ids f.id=false∧f.rule=1 then [(f.id,aL r 4 f)] else ((ids.zip l).filter fun p=>decide (p.1=f.id)).map fun p=>(p.1,if f.kind=5 then iy r k (typeOf r f.type) p.2 else p.2)
end
def uk (w r:av)(name:ByteArray)(v:aj):aj × Int :=
 if iH w r name≠0 then (.zero,iH w r name)
 else if dQ w name v≠0 then (.zero,dQ w name v)
 else if (dH w r name).1≠[] then (.zero,8)
 else if jA (iy r (aD v) (typeOf r name) v)=false then (.zero,7)
 else (iy r (aD v) (typeOf r name) v,0)
theorem xB {α:Type}[DecidableEq α]:∀ (L M:List α),L.Nodup→(∀ x∈L,x∈M)→L.length≤M.length
 | [],_,_,_=>Nat.zero_le _
 | x::L,M,hn,hm=>by
  have hx:x∈M:=hm x (List.mem_cons_self ..);obtain⟨h1,h2⟩:=List.nodup_cons.1 hn;have ih:=xB L (M.erase x) h2 fun y hy=>(List.mem_erase_of_ne (by rintro rfl;exact h1 hy)).2 (hm y (List.mem_cons_of_mem _ hy))
  rw[List.length_erase_of_mem hx] at ih;have:0<M.length:=List.length_pos_of_mem hx;simp only[List.length_cons];omega
def Ry (p:bQ):ByteArray × ByteArray:=(p.w,p.r)
def ic (w r:av)(l:List bQ):Prop:=(l.map Ry).Nodup∧∀ p∈l,(aM w p.w).isSome=true∧(aM r p.r).isSome=true
theorem Be {b:av}{n:ByteArray}(h:(aM b n).isSome=true):n∈b.map (·.name):=by
 obtain⟨t,ht⟩:=Option.isSome_iff_exists.1 h;unfold aM at ht;have hm:=List.mem_of_find?_eq_some ht;have hq:=List.find?_some ht;simp only[decide_eq_true_eq] at hq;rw[←hq];exact List.mem_map_of_mem hm
theorem aie {w r:av}{l:List bQ}(h:ic w r l):l.length≤w.length*r.length:=by
 have:=xB (l.map Ry) ((w.map (·.name)).flatMap fun a=>(r.map (·.name)).map fun b=>(a,b)) h.1 fun x hx=>by
  obtain⟨p,hp,rfl⟩:=List.mem_map.1 hx;exact List.mem_flatMap.2 ⟨p.w,Be (h.2 p hp).1,List.mem_map.2 ⟨p.r,Be (h.2 p hp).2,rfl⟩⟩
 rw[List.length_map] at this;refine Nat.le_trans this ?_;rw[List.length_flatMap];have e:∀ l:List ByteArray,((l.map fun a=>((r.map (·.name)).map fun b=>(a,b)).length).sum)=l.length*r.length:=by
  intro l
  induction l with
  | nil=>simp
  | cons x l ih =>
   simp only[List.length_map] at ih;simp only[List.map_cons,List.sum_cons,List.length_map,List.length_cons,Nat.add_mul,Nat.one_mul,ih];omega
 rw[e,List.length_map];exact Nat.le_refl _
theorem PE {l:List bQ}{a b:ByteArray}:vP l a b=true↔(a,b)∈l.map Ry:=by
 unfold vP;rw[List.any_eq_true,List.mem_map];constructor
 ·rintro⟨p,hp,h⟩;simp only[decide_eq_true_eq] at h;exact⟨p,hp,by unfold Ry;rw[h.1,h.2]⟩
 ·rintro⟨p,hp,h⟩;unfold Ry at h;injection h with h1 h2
  exact⟨p,hp,by simp[h1,h2]⟩
theorem Ta {w r:av}{l:List bQ}(hl:ic w r l){i:Nat}{t:ax}{f:ay}(hf:f.kind=5→(aM w f.type).isSome=true)(hg:∀ g,aC t f.id=some g→g.kind=5→(aM r g.type).isSome=true):ic w r (dA i t l f):=by
 unfold dA;split
 ·exact hl
 ·rename_i g hgg
  split
  ·rename_i h
   obtain⟨h1,h2,h3⟩:=h;refine⟨?_,fun p hp=>?_⟩
   ·rw[List.map_append,List.map_singleton];refine List.nodup_append.2 ⟨hl.1,by simp,fun a ha b hb=>?_⟩;rw[List.mem_singleton] at hb;subst hb;rintro rfl;have:vP l f.type g.type=true:=PE.2 ha;rw[h3] at this;cases this
   ·rcases List.mem_append.1 hp with hp | hp
    ·exact hl.2 p hp
    ·rw[List.mem_singleton.1 hp];exact⟨hf h1,hg g hgg h2⟩
  ·exact hl
theorem zg {b:av}(hg:aB b=0){t:ax}(ht:t∈b){f:ay}(hf:f∈t.fields)(h5:4≤f.kind):(aM b f.type).isSome=true:=by
 cases he:t.enum with
 | true =>
  have:=(fE hg ht he).2.2.2.1;rw[List.eq_nil_of_length_eq_zero this] at hf;cases hf
 | false=>exact((bC (bq hg ht he) hf).2.2.2.2.2.2.2.2 h5).1
theorem dB {b:av}{n:ByteArray}(h:(aM b n).isSome=true):typeOf b n∈b:=by
 obtain⟨t,ht⟩:=Option.isSome_iff_exists.1 h;unfold typeOf;rw[ht];unfold aM at ht;exact List.mem_of_find?_eq_some ht
theorem rE {t:ax}{id:Int}{f:ay}(h:aC t id=some f):f∈t.fields:=by
 unfold aC at h;exact List.mem_of_find?_eq_some h
theorem BZ {w r:av}(hw:aB w=0)(hr:aB r=0){p:bQ}(hp:(aM w p.w).isSome=true∧(aM r p.r).isSome=true){i:Nat}:∀ (fs:List ay) (l:List bQ),(∀ f∈fs,f∈(typeOf w p.w).fields)→ic w r l→ic w r (fs.foldl (dA i (typeOf r p.r)) l)
 | [],_,_,h=>h
 | f::fs,l,hm,h=>by
  rw[List.foldl_cons];refine BZ hw hr hp fs _ (fun f hf=>hm f (List.mem_cons_of_mem _ hf)) (Ta h (fun h5=>?_) (fun g hg h5=>?_))
  ·exact zg hw (dB hp.1) (hm f (List.mem_cons_self ..)) (by omega)
  ·exact zg hr (dB hp.2) (rE hg) (by omega)
theorem xP (i:Nat)(t:ax):∀ (fs:List ay) (l:List bQ),∃ m,fs.foldl (dA i t) l=l++m
 | [],l=>⟨[],by simp⟩
 | f::fs,l=>by
  rw[List.foldl_cons];obtain⟨m,hm⟩:=xP i t fs (dA i t l f);have:∃ m',dA i t l f=l++m':=by
   unfold dA;split
   ·exact⟨[],by simp⟩
   ·split
    ·exact⟨_,rfl⟩
    ·exact⟨[],by simp⟩
  obtain⟨m',hm'⟩:=this;exact⟨m'++m,by rw[hm,hm',List.append_assoc]⟩
theorem qg {b:av}{n:ByteArray}(h:dW b n=false):(aM b n).isSome=true∧(typeOf b n).enum=false:=by
 unfold dW at h;unfold typeOf;cases hf:aM b n with
 | none=>rw[hf] at h;cases h
 | some t=>rw[hf] at h;exact⟨rfl,h⟩
theorem iK {w r:av}{name:ByteArray}(h1:dW w name=false)(h2:dW r name=false):ic w r [⟨name,name,-1,0⟩] :=
 ⟨by simp,fun p hp=>by rw[List.mem_singleton.1 hp];exact⟨(qg h1).1,(qg h2).1⟩⟩
theorem mI {w r:av}{name:ByteArray}(h:iH w r name=0):aB w=0∧aB r=0∧dW w name=false∧dW r name=false:=by
 unfold iH at h;split at h
 ·cases h
 ·rename_i h1
  split at h
  ·cases h
  ·rename_i h2
   refine⟨Classical.byContradiction fun h=>h1 (.inl h),Classical.byContradiction fun h=>h1 (.inr h),?_,?_⟩
   ·cases hh:dW w name with
    | false=>rfl
    | true=>exact absurd (.inl hh) h2
   ·cases hh:dW r name with
    | false=>rfl
    | true=>exact absurd (.inr hh) h2
theorem sixteen {w r:av}(hw:aB w=0)(hr:aB r=0){l:List bQ}(h:ic w r l):l.length≤16:=by
 have:=aie h;have a:=(fJ hw).1;have b:=(fJ hr).1;have:w.length*r.length≤4*4:=Nat.mul_le_mul a b;omega
theorem kY {w r:av}(hw:aB w=0)(hr:aB r=0):∀ (k i:Nat) (l:List bQ),ic w r l→ic w r (jF w r k i l)
 | 0,_,_,h=>h
 | k+1,i,l,h=>by
  rw[jF];split
  ·exact h
  ·rename_i p hp
   exact kY hw hr k (i+1) _ (BZ hw hr (h.2 p (List.mem_of_getElem? hp)) _ _ (fun _ h=>h) h)
structure iP where
 there:Bool
 enum:Bool
 field:ay
 item:ByteArray
 deriving DecidableEq
def noS:iP:=⟨false,false,.zero,⟨#[]⟩⟩
def iM (was a b:iP):iP × Bool:=if a=b∨b=was then (a,true) else if a=was then (b,true) else (was,false)
def nT (b:av)(name:ByteArray):iP:=⟨(aM b name).isSome,(typeOf b name).enum,.zero,⟨#[]⟩⟩
def bI (t:ax)(id:Int):iP:=⟨(aC t id).isSome,false,(aC t id).getD .zero,⟨#[]⟩⟩
def oC (t:ax)(id:Int):iP:=⟨dV t.gone id,false,.zero,⟨#[]⟩⟩
def oQ (t:ax)(n:Int):Option dC:=t.items.find? fun x=>decide (x.n=n)
def mh (t:ax)(n:Int):iP:=match oQ t n with
 | some x=>⟨true,false,.zero,x.name⟩
 | none=>noS
def vW (out:List ByteArray)(x:ByteArray):List ByteArray:=if mK out x then out else out++[x]
def Uk (l:List ByteArray):List ByteArray:=l.foldl vW []
def vE (l:List ByteArray):List ByteArray:=((l.map bytes).mergeSort fun x y=>decide (x≤y)).map fun b=>⟨b.toArray⟩
def uj (l:List Int):List Int:=l.mergeSort fun x y=>decide (x≤y)
def jl (l:List av):List ByteArray:=vE (Uk (l.flatMap fun b=>b.map (·.name)))
def dE (l:List ax):List Int:=Lib.compact (uj (l.flatMap fun t=>t.items.map (·.n)))
def jN:List Int:=(List.range 30).map fun (k:Nat)=>(k:Int)+1
section
variable (x y z:ax)(name:ByteArray)
def fT (id:Int):iP × Bool:=iM (bI x id) (bI y id) (bI z id)
def gT (id:Int):iP × Bool:=iM (oC x id) (oC y id) (oC z id)
def iT (n:Int):iP × Bool:=iM (mh x n) (mh y n) (mh z n)
def ui (id:Int):Bool:=!(fT x y z id).2||((fT x y z id).1.there&&(gT x y z id).1.there)
def dL (id:Int):List ay:=if ui x y z id=true then [] else if (fT x y z id).1.there=true then [(fT x y z id).1.field] else []
def lh (id:Int):List Int:=if ui x y z id=true then [] else if (fT x y z id).1.there=true then [] else if (gT x y z id).1.there=true then [id] else []
def nR (id:Int):List aX:=if ui x y z id=true then [⟨name,id,0⟩] else []
def iX (n:Int):List dC:=if (iT x y z n).2=false then [] else if (iT x y z n).1.there=true then [⟨(iT x y z n).1.item,n⟩] else []
def qa (n:Int):List aX:=if (iT x y z n).2=false then [⟨name,n,0⟩] else []
def yo:ax:=⟨name,false,jN.flatMap (dL x y z),jN.flatMap (lh x y z),(dE [x,y,z]).flatMap (iX x y z)⟩
def zD:List aX:=jN.flatMap (nR x y z name)++(dE [x,y,z]).flatMap (qa x y z name)
end
def Eo (k:iP)(t:ax):Bool :=
 (!k.there&&(decide (0<t.fields.length+t.gone.length)||decide (0<t.items.length)))||(k.there&&k.enum&&decide (0<t.fields.length+t.gone.length))||(k.there && !k.enum&&decide (0<t.items.length))
section
variable (was a b:av)(name:ByteArray)
def kT:iP × Bool:=iM (nT was name) (nT a name) (nT b name)
def tyT:ax:={ yo (typeOf was name) (typeOf a name) (typeOf b name) name with enum:=(kT was a b name).1.enum }
def tyL:List aX:=zD (typeOf was name) (typeOf a name) (typeOf b name) name
def fG:List ax × List aX :=
 if (kT was a b name).2=false then ([],[⟨name,0,0⟩])
 else if 0<(tyL was a b name).length then ([],tyL was a b name)
 else if Eo (kT was a b name).1 (tyT was a b name)=true then ([],[⟨name,0,0⟩])
 else if (kT was a b name).1.there=true then ([tyT was a b name],[]) else ([],[])
end
def yA (was a b:av):av:=(jl [was,a,b]).flatMap fun n=>(fG was a b n).1
def Ub (was a b:av):List aX:=(jl [was,a,b]).flatMap fun n=>(fG was a b n).2
def fC (was a b:av):av × List aX × Int :=
 if aB was≠0∨aB a≠0∨aB b≠0 then ([],[],1)
 else if 0<(Ub was a b).length then ([],Ub was a b,9)
 else if aB (yA was a b)≠0 then ([],[],aB (yA was a b))
 else (yA was a b,[],0)
end
section
theorem zW {α:Type}{r:α→α→Prop}(ha:∀ a b,r a b→¬ r b a){l1 l2:List α}(h1:l1.Pairwise r)(h2:l2.Pairwise r)(hm:∀ x,x∈l1↔x∈l2):l1=l2:=by
 have nd:∀ l:List α,l.Pairwise r→l.Nodup:=fun l h=>h.imp (fun {a b} hab e=>by subst e;exact ha _ _ hab hab)
 exact List.Perm.eq_of_pairwise (le:=r) (fun a b _ _ h h'=>absurd h' (ha a b h)) h1 h2 ((List.perm_ext_iff_of_nodup (nd _ h1) (nd _ h2)).2 hm)
theorem Dj {α κ:Type}[DecidableEq κ]{key:α→κ}:∀ {l:List α} {t:α},t∈l→(∀ u∈l,key u=key t→u=t)→l.find? (fun u=>decide (key u=key t))=some t
 | [],_,h,_=>by cases h
 | a::l,t,h,hu=>by
  rw[List.find?_cons]
  by_cases e:key a=key t
  ·have:=hu a (by simp) e;subst this;simp
  ·simp only[e,decide_false];refine Dj ?_ fun u h'=>hu u (by simp[h'])
   rcases List.mem_cons.1 h with rfl | h
   ·exact absurd rfl e
   ·exact h
theorem OM:∀ (x y:List UInt8),Op.bytesLess x y=decide (x<y)
 | [],[]=>by simp[Op.bytesLess]
 | _::_,[]=>by simp[Op.bytesLess]
 | [],_::_=>by simp[Op.bytesLess]
 | a::x,b::y=>by
  rw[Op.bytesLess,OM x y];simp only[List.cons_lt_cons_iff]
  by_cases h1:a<b <;> by_cases h2:a=b <;> by_cases h3:x<y <;> simp[h1,h2,h3]
def ltN (a b:ByteArray):Prop:=bytes a<bytes b
theorem alc (a b:ByteArray):ltS a b↔ltN a b:=by
 unfold ltS ltN;rw[OM,ByteArray.toList_eq,ByteArray.toList_eq,decide_eq_true_iff]
theorem pI (a b:ByteArray)(h:ltN a b):¬ ltN b a:=fun h'=>List.lt_irrefl _ (List.lt_trans h h')
theorem UA (a b c:ByteArray)(h:ltN a b)(h':ltN b c):ltN a c:=List.lt_trans h h'
theorem bytes_inj {a b:ByteArray}(h:bytes a=bytes b):a=b:=(qb h).trans (qb rfl).symm
theorem aaG {l:List ByteArray}{x:ByteArray}:mK l x=true↔x∈l:=by unfold mK;simp
theorem KM:∀ (l out:List ByteArray),out.Nodup→(l.foldl vW out).Nodup∧∀ x,x∈l.foldl vW out↔x∈out∨x∈l
 | [],out,h=>⟨h,by simp⟩
 | y::l,out,h=>by
  have hy:(vW out y).Nodup∧∀ x,x∈vW out y↔x∈out∨x=y:=by
   unfold vW
   by_cases hh:mK out y=true
   ·rw[if_pos hh];refine⟨h,fun x=>⟨.inl,?_⟩⟩;rintro(h | rfl)
    ·exact h
    ·exact aaG.1 hh
   ·rw[if_neg hh];refine⟨?_,by simp⟩;rw[List.nodup_append];refine⟨h,by simp,?_⟩;intro a ha b hb e;have:b=y:=by simpa using hb
    subst this;subst e;exact hh (aaG.2 ha)
  rw[List.foldl_cons];have:=KM l (vW out y) hy.1;refine⟨this.1,fun x=>?_⟩;rw[this.2,hy.2,List.mem_cons,or_assoc]
theorem acT (l:List ByteArray):(Uk l).Nodup:=(KM l [] .nil).1
theorem ajN {l:List ByteArray}{x:ByteArray}:x∈Uk l↔x∈l:=by
 have:=(KM l [] .nil).2 x;simpa[Uk] using this
theorem afk {l:List ByteArray}{x:ByteArray}:x∈vE l↔x∈l:=by
 unfold vE;constructor
 ·intro h;obtain⟨b,hb,rfl⟩:=List.mem_map.1 h;rw[(List.mergeSort_perm _ _).mem_iff] at hb;obtain⟨y,hy,rfl⟩:=List.mem_map.1 hb;exact hy
 ·intro h;refine List.mem_map.2 ⟨bytes x,?_,rfl⟩;rw[(List.mergeSort_perm _ _).mem_iff];exact List.mem_map.2 ⟨x,h,rfl⟩
theorem Xy {l:List ByteArray}(h:l.Nodup):(vE l).Pairwise ltN:=by
 unfold vE;rw[List.pairwise_map];have h1:=List.pairwise_mergeSort (le:=fun x y:List UInt8=>decide (x≤y)) (fun a b c h1 h2=>by
  simp only[decide_eq_true_eq] at h1 h2 ⊢;exact List.le_trans h1 h2) (fun a b=>by
  simp only[Bool.or_eq_true,decide_eq_true_eq];exact List.le_total a b) (l.map bytes)
 have h2:((l.map bytes).mergeSort fun x y=>decide (x≤y)).Nodup:=by
  rw[(List.mergeSort_perm _ _).nodup_iff];refine List.pairwise_map.2 (h.imp fun hne e=>hne (bytes_inj e))
 refine(h1.and h2).imp ?_;rintro a b ⟨hab,hne⟩;simp only[decide_eq_true_eq] at hab;show a<b
 by_cases hba:b≤a
 ·exact absurd (List.le_antisymm hab hba) hne
 ·exact List.not_le.1 hba
theorem pQ {l:List av}{n:ByteArray}:n∈jl l↔∃ b∈l,∃ t∈b,t.name=n:=by
 unfold jl;rw[afk,ajN,List.mem_flatMap];simp only[List.mem_map]
theorem qK (l:List av):(jl l).Pairwise ltN:=Xy (acT _)
theorem DZ {zs:List Int}(h:zs.Pairwise (· ≤ ·)):(Lib.compact zs).Pairwise (· < ·)∧∀ x,x∈Lib.compact zs↔x∈zs:=by
 have hle:∀ i j,i≤j→j<zs.length→zs.toArray[i]!≤zs.toArray[j]! := by
  intro i j hij hj;have e:∀ k (hk:k<zs.length),zs.toArray[k]! = zs[k]:=fun k hk=>by
   rw[getElem!_pos zs.toArray k (by simpa using hk)];simp
  rw[e i (by omega),e j hj];rcases Nat.lt_or_ge i j with h' | h'
  ·exact List.pairwise_iff_getElem.1 h i j (by omega) hj h'
  ·have:i=j:=by omega
   subst this;exact Int.le_refl _
 refine⟨?_,fun x=>?_⟩
 ·unfold Lib.compact Lib.compactUpTo;rw[List.pairwise_map];have hr:(List.range zs.length).Pairwise (· < ·):=List.pairwise_lt_range;refine(hr.filter (Lib.keeps zs.toArray)).imp_of_mem ?_;intro i j _ hj hij;have hj':=List.mem_filter.1 hj;have hjl:j<zs.length:=List.mem_range.1 hj'.1;have hk:j=0∨zs.toArray[j]!≠zs.toArray[j-1]! := by simpa[Lib.keeps] using hj'.2
  have h1:=hle i (j-1) (by omega) (by omega);have h2:=hle (j-1) j (by omega) hjl;rcases hk with hk | hk
  ·omega
  ·omega
 ·unfold Lib.compact Lib.compactUpTo;have e:∀ k (hk:k<zs.length),zs.toArray[k]! = zs[k]:=fun k hk=>by
   rw[getElem!_pos zs.toArray k (by simpa using hk)];simp
  simp only[List.mem_map,List.mem_filter,List.mem_range];constructor
  ·rintro⟨j,⟨hj,_⟩,rfl⟩;rw[e j hj];exact List.getElem_mem hj
  ·intro hx;obtain⟨j,hj,rfl⟩:=List.getElem_of_mem hx;have:∀ j,j<zs.length→∃ i,(i<zs.length∧Lib.keeps zs.toArray i=true)∧zs.toArray[i]! = zs.toArray[j]! := by
    intro j
    induction j with
    | zero=>intro h0;exact⟨0,⟨h0,by simp[Lib.keeps]⟩,rfl⟩
    | succ j ih =>
     intro hj
     by_cases hk:Lib.keeps zs.toArray (j+1)=true
     ·exact⟨j+1,⟨hj,hk⟩,rfl⟩
     ·obtain⟨i,hi,he⟩:=ih (by omega);refine⟨i,hi,he.trans ?_⟩;simp[Lib.keeps] at hk;simpa using hk.symm
   obtain⟨i,hi,he⟩:=this j hj;exact⟨i,hi,by rw[he,e j hj]⟩
theorem Ky (l:List Int):(uj l).Pairwise (· ≤ ·):=by
 have h1:=List.pairwise_mergeSort (le:=fun x y:Int=>decide (x≤y)) (fun a b c h1 h2=>by
  simp only[decide_eq_true_eq] at h1 h2 ⊢;omega) (fun a b=>by
  simp only[Bool.or_eq_true,decide_eq_true_eq];omega) l
 exact h1.imp fun h=>by simpa using h
theorem ou (l:List ax):(dE l).Pairwise (· < ·):=(DZ (Ky _)).1
theorem Yz {i:Int}:i∈jN↔1≤i∧i≤30:=by
 unfold jN;simp only[List.mem_map,List.mem_range];constructor
 ·rintro⟨k,hk,rfl⟩;omega
 ·intro h;exact⟨(i-1).toNat,by omega,by omega⟩
theorem Qy:jN.Pairwise (· < ·):=by
 unfold jN;rw[List.pairwise_map];exact List.pairwise_lt_range.imp fun h=>by omega
theorem Li (w a b:iP):(iM w a b).1=w∨(iM w a b).1=a∨(iM w a b).1=b:=by
 unfold iM;split
 ·exact .inr (.inl rfl)
 ·split
  ·exact .inr (.inr rfl)
  ·exact .inl rfl
structure Ni (t:ax):Prop where
 fs:t.fields.Pairwise (fun f g=>f.id<g.id)
 fi:∀ f∈t.fields,1≤f.id∧f.id≤30
 gs:t.gone.Pairwise (· < ·)
 gi:∀ g∈t.gone,1≤g∧g≤30
 dj:∀ g∈t.gone,aC t g=none
 is:t.items.Pairwise (fun x y=>x.n<y.n)
 en:t.enum=true→t.fields=[]∧t.gone=[]
 me:t.enum=false→t.items=[]
theorem aco:Ni .zero:=⟨by simp[ax.zero],by simp[ax.zero],by simp[ax.zero],by simp[ax.zero],by simp[ax.zero],by simp[ax.zero],by simp[ax.zero],by simp[ax.zero]⟩
theorem aka {b:av}(hg:aB b=0){t:ax}(ht:t∈b):Ni t:=by
 cases he:t.enum with
 | true =>
  have h:=fE hg ht he;have e1:t.fields=[]:=List.eq_nil_of_length_eq_zero h.2.2.2.1;have e2:t.gone=[]:=List.eq_nil_of_length_eq_zero h.2.2.2.2;refine⟨by simp[e1],by simp[e1],by simp[e2],by simp[e2],by simp[e2],?_,fun _=>⟨e1,e2⟩,fun h=>(by rw[he] at h;cases h)⟩;exact mF (R:=fun x y:dC=>x.n<y.n) (fun _ _ _ h1 h2=>Int.lt_trans h1 h2) _ fun i hi h0=>(h.1 i hi).2.2.2.1 h0
 | false =>
  have h:=bq hg ht he;have e3:t.items=[]:=List.eq_nil_of_length_eq_zero h.2.1;refine⟨qo h,fun f hf=>⟨(bC h hf).2.1,(bC h hf).2.2.1⟩,?_,?_,?_,by simp[e3],fun h=>(by rw[he] at h;cases h),fun _=>e3⟩
  ·exact mF (R:=fun x y:Int=>x<y) (fun _ _ _ h1 h2=>Int.lt_trans h1 h2) _ fun i hi h0=>(h.2.2.2.1 i hi).2.2.2 h0
  ·intro g hgm;obtain⟨i,hi,rfl⟩:=List.getElem_of_mem hgm;have:=h.2.2.2.1 i hi;exact⟨this.2.1,this.2.2.1⟩
  ·intro g hgm;obtain⟨i,hi,rfl⟩:=List.getElem_of_mem hgm;have:=(h.2.2.2.1 i hi).1;cases hf:aC t t.gone[i] with
   | none=>rfl
   | some f=>rw[hf] at this;cases this
theorem sH {b:av}(hg:aB b=0)(name:ByteArray):Ni (typeOf b name):=by
 unfold typeOf;cases h:aM b name with
 | none=>exact aco
 | some t=>exact aka hg (eU h).1
theorem NL {b:av}(hg:aB b=0):b.Pairwise (fun t u=>ltN t.name u.name) :=
 mF (R:=fun t u:ax=>ltN t.name u.name) (fun _ _ _=>UA _ _ _) _ fun i hi h0=>(alc _ _).1 (((fJ hg).2.1 i hi).2.1 h0)
theorem OO (a:ByteArray):¬ ltN a a:=fun h=>pI _ _ h h
theorem JM {α κ:Type}{r:κ→κ→Prop}(hr:∀ a,¬ r a a){key:α→κ}:∀ {l:List α},l.Pairwise (fun t u=>r (key t) (key u))→∀ {t u:α},t∈l→u∈l→key u=key t→u=t
 | a::l,h,t,u,ht,hu,e=>by
  have hp:=List.pairwise_cons.1 h;rcases List.mem_cons.1 ht with ht | ht
  ·rcases List.mem_cons.1 hu with hu | hu
   ·exact hu.trans ht.symm
   ·have:=hp.1 u hu;rw[e,ht] at this;exact absurd this (hr _)
  ·rcases List.mem_cons.1 hu with hu | hu
   ·have:=hp.1 t ht;rw[←e,hu] at this;exact absurd this (hr _)
   ·exact JM hr hp.2 ht hu e
theorem adL {b:av}(hg:aB b=0){t:ax}(ht:t∈b):aM b t.name=some t :=
 Dj (key:=ax.name) ht fun u hu e=>JM OO (key:=ax.name) (NL hg) ht hu e
theorem Ni.field {t:ax}(h:Ni t){f:ay}(hf:f∈t.fields):aC t f.id=some f :=
 Dj (key:=ay.id) hf fun u hu e=>JM (fun (a:Int) h=>by omega) (key:=ay.id) h.fs hf hu e
theorem sD {t:ax}{n:Int}{x:dC}(h:oQ t n=some x):x∈t.items∧x.n=n:=by
 have h1:=List.mem_of_find?_eq_some h;have h2:=List.find?_some h;exact⟨h1,by simpa using h2⟩
theorem Ni.item {t:ax}(h:Ni t){x:dC}(hx:x∈t.items):oQ t x.n=some x :=
 Dj (key:=dC.n) hx fun u hu e=>JM (fun (a:Int) h=>by omega) (key:=dC.n) h.is hx hu e
structure Made (w a b R:av):Prop where
 k:∀ n,kT w a b n=(nT R n,true)
 f:∀ n i,fT (typeOf w n) (typeOf a n) (typeOf b n) i=(bI (typeOf R n) i,true)
 g:∀ n i,gT (typeOf w n) (typeOf a n) (typeOf b n) i=(oC (typeOf R n) i,true)
 i:∀ n i,iT (typeOf w n) (typeOf a n) (typeOf b n) i=(mh (typeOf R n) i,true)
 sub:∀ t∈R,t.name∈jl [w,a,b]
 subi:∀ n,∀ x∈(typeOf R n).items,x.n∈dE [typeOf w n,typeOf a n,typeOf b n]
section
variable {w a b R:av}
theorem Made.bad (h:Made w a b R)(hR:aB R=0)(n:ByteArray)(i:Int):ui (typeOf w n) (typeOf a n) (typeOf b n) i=false:=by
 unfold ui;rw[h.f,h.g];simp only[Bool.not_true,Bool.false_or];have hT:=sH hR n;show ((aC (typeOf R n) i).isSome&&dV (typeOf R n).gone i)=false;cases hh:dV (typeOf R n).gone i with
 | false=>simp
 | true=>rw[hT.dj i (ow.1 hh)];rfl
theorem Made.types (h:Made w a b R)(hR:aB R=0)(n:ByteArray):yo (typeOf w n) (typeOf a n) (typeOf b n) n=⟨n,false,(typeOf R n).fields,(typeOf R n).gone,(typeOf R n).items⟩:=by
 have hT:=sH hR n;unfold yo
 congr 1
 ·refine zW (r:=fun f g:ay=>f.id<g.id) (fun _ _ h h'=>by omega) ?_ hT.fs ?_
  ·rw[List.pairwise_flatMap];have hk:∀ i,∀ f∈dL (typeOf w n) (typeOf a n) (typeOf b n) i,f.id=i:=by
    intro i f hf;unfold dL at hf;rw[h.bad hR,h.f] at hf;simp only[Bool.false_eq_true,if_false] at hf;cases hfo:aC (typeOf R n) i with
    | none=>simp[bI,hfo] at hf
    | some f' =>
     have:f=f':=by simpa[bI,hfo] using hf
     subst this;exact(bE hfo).2
   refine⟨fun i _=>?_,?_⟩
   ·unfold dL;split
    ·simp
    ·split <;> simp
   ·refine Qy.imp fun {i j} hij f hf g hg=>?_
    rw[hk i f hf,hk j g hg];exact hij
  ·intro f;rw[List.mem_flatMap];have e:∀ i,dL (typeOf w n) (typeOf a n) (typeOf b n) i=(aC (typeOf R n) i).toList:=by
    intro i;unfold dL;rw[h.bad hR,h.f];cases hfo:aC (typeOf R n) i <;> simp[bI,hfo]
   constructor
   ·rintro⟨i,_,hf⟩;rw[e i] at hf;exact(bE (by simpa using hf)).1
   ·intro hf;exact⟨f.id,Yz.2 (hT.fi f hf),by rw[e,hT.field hf];simp⟩
 ·have e:∀ i,lh (typeOf w n) (typeOf a n) (typeOf b n) i=if i∈(typeOf R n).gone then [i] else []:=by
   intro i;unfold lh;rw[h.bad hR,h.f,h.g];have e1:(bI (typeOf R n) i).there=(aC (typeOf R n) i).isSome:=rfl;have e2:(oC (typeOf R n) i).there=dV (typeOf R n).gone i:=rfl;simp only[Bool.false_eq_true,if_false,e1,e2]
   by_cases hi:i∈(typeOf R n).gone
   ·rw[hT.dj i hi,ow.2 hi];simp[hi]
   ·have:dV (typeOf R n).gone i=false:=by
     cases hh:dV (typeOf R n).gone i with
     | false=>rfl
     | true=>exact absurd (ow.1 hh) hi
    rw[this];simp[hi]
  refine zW (r:=fun f g:Int=>f<g) (fun _ _ h h'=>by omega) ?_ hT.gs ?_
  ·rw[List.pairwise_flatMap];refine⟨fun i _=>?_,?_⟩
   ·rw[e];split <;> simp
   ·refine Qy.imp fun {i j} hij f hf g hg=>?_
    rw[e] at hf hg;split at hf
    ·split at hg
     ·simp at hf hg;omega
     ·cases hg
    ·cases hf
  ·intro g;rw[List.mem_flatMap];constructor
   ·rintro⟨i,_,hf⟩;rw[e] at hf;split at hf
    ·rename_i hi
     have:g=i:=by simpa using hf
     subst this;exact hi
    ·cases hf
   ·intro hg;exact⟨g,Yz.2 (hT.gi g hg),by rw[e,if_pos hg];simp⟩
 ·have e:∀ i,iX (typeOf w n) (typeOf a n) (typeOf b n) i=(oQ (typeOf R n) i).toList:=by
   intro i;unfold iX;rw[h.i];unfold mh;cases hfo:oQ (typeOf R n) i with
   | none=>simp[noS]
   | some x =>
    have:=(sD hfo).2;obtain⟨xn,xi⟩:=x;simp at this ⊢;exact this.symm
  refine zW (r:=fun f g:dC=>f.n<g.n) (fun _ _ h h'=>by omega) ?_ hT.is ?_
  ·rw[List.pairwise_flatMap];refine⟨fun i _=>?_,?_⟩
   ·rw[e];cases oQ (typeOf R n) i <;> simp
   ·refine(ou _).imp fun {i j} hij f hf g hg=>?_
    rw[e] at hf hg;have h1:=(sD (Option.mem_toList.1 hf)).2;have h2:=(sD (Option.mem_toList.1 hg)).2;omega
  ·intro x;rw[List.mem_flatMap];constructor
   ·rintro⟨i,_,hf⟩;rw[e] at hf;exact(sD (Option.mem_toList.1 hf)).1
   ·intro hx;exact⟨x.n,h.subi n x hx,by rw[e,hT.item hx];simp⟩
theorem Made.noL (h:Made w a b R)(hR:aB R=0)(n:ByteArray):tyL w a b n=[]:=by
 unfold tyL zD;have e1:∀ i,nR (typeOf w n) (typeOf a n) (typeOf b n) n i=[]:=fun i=>by unfold nR;rw[h.bad hR];rfl
 have e2:∀ i,qa (typeOf w n) (typeOf a n) (typeOf b n) n i=[]:=fun i=>by unfold qa;rw[h.i];rfl
 rw[List.flatMap_eq_nil_iff.2 fun i _=>e1 i,List.flatMap_eq_nil_iff.2 fun i _=>e2 i];rfl
theorem Made.name (h:Made w a b R)(hR:aB R=0)(n:ByteArray):fG w a b n=((aM R n).toList,[]):=by
 have ht:tyT w a b n=⟨n,(typeOf R n).enum,(typeOf R n).fields,(typeOf R n).gone,(typeOf R n).items⟩:=by
  unfold tyT;rw[h.types hR,h.k];rfl
 have hT:=sH hR n;unfold fG;rw[h.k,h.noL hR,ht];rw[if_neg (by simp),if_neg (by simp)];cases hf:aM R n with
 | none =>
  have e:typeOf R n=.zero:=by unfold typeOf;rw[hf];rfl
  rw[e,if_neg (by simp[Eo,nT,hf,ax.zero]),if_neg (by simp[nT,hf])];rfl
 | some t =>
  have e:typeOf R n=t:=by unfold typeOf;rw[hf];rfl
  have hn:=(eU hf).2;rw[e] at hT ⊢;rw[if_neg,if_pos (by simp[nT,hf])]
  ·subst hn;rfl
  ·unfold Eo;simp only[nT,hf,e,Option.isSome_some,Bool.not_true,Bool.false_and,Bool.false_or,Bool.true_and];cases he:t.enum with
   | true=>rw[(hT.en he).1,(hT.en he).2];simp
   | false=>rw[hT.me he];simp
theorem Made.books (h:Made w a b R)(hw:aB w=0)(ha:aB a=0)(hb:aB b=0)(hR:aB R=0):fC w a b=(R,[],0):=by
 have hbad:Ub w a b=[]:=by
  unfold Ub;exact List.flatMap_eq_nil_iff.2 fun n _=>by rw[h.name hR]
 have hout:yA w a b=R:=by
  unfold yA;refine zW (r:=fun t u:ax=>ltN t.name u.name) (fun _ _ h h'=>pI _ _ h h') ?_ (NL hR) ?_
  ·rw[List.pairwise_flatMap];refine⟨fun n _=>?_,?_⟩
   ·rw[h.name hR];cases aM R n <;> simp
   ·refine(qK _).imp fun {m n} hmn t ht u hu=>?_
    rw[h.name hR] at ht hu;rw[(eU (Option.mem_toList.1 ht)).2,(eU (Option.mem_toList.1 hu)).2];exact hmn
  ·intro t;rw[List.mem_flatMap];constructor
   ·rintro⟨n,_,ht⟩;rw[h.name hR] at ht;exact(eU (Option.mem_toList.1 ht)).1
   ·intro ht;exact⟨t.name,h.sub t ht,by rw[h.name hR,adL hR ht];simp⟩
 unfold fC;rw[hbad,hout,if_neg (by simp[hw,ha,hb]),if_neg (by simp),if_neg (by simp[hR])]
end
end
section
theorem alV {a b:ByteArray}(h:bytes a=bytes b):a=b:=by
 rw[qb (s:=a) rfl,qb (s:=b) rfl,h]
theorem PI {a:ByteArray}(h:a.size=0):a=⟨#[]⟩:=by
 apply alV;rw[sU];exact List.eq_nil_of_length_eq_zero h
theorem ja {b:av}{f:ay}{x:aj}(h:eO b f x=0):x.kind=kindOf f.kind∧vV x=false:=by
 unfold eO at h;split at h
 ·simp at h
 ·split at h
  ·simp at h
  ·rename_i h1 h2
   exact⟨by simpa using h1,by simpa using h2⟩
theorem rD {v:aj}:vV v=false↔(v.kind≠2→v.ids=[]∧v.l=[])∧(v.kind≠0→v.n=0)∧(v.kind≠1→v.s.size=0):=by
 unfold vV;simp only[decide_eq_false_iff_not,not_or,not_and,Decidable.not_not,Nat.not_lt,Nat.le_zero_eq,Nat.add_eq_zero_iff,List.length_eq_zero_iff]
theorem Bg {b:av}{f:ay}{x:aj}(h:eO b f x=0)(id:Int)(inner:List UInt8) :
  eO b f (mO (partOf id x inner))=0∧(f.kind≠5→mO (partOf id x inner)=x):=by
 obtain⟨h1,h2⟩:=ja h;obtain⟨o1,o2,o3⟩:=rD.1 h2;obtain⟨kind,n,s,ids,l⟩:=x;simp only[aj.kind,aj.ids,aj.l,aj.n,aj.s] at h1 o1 o2 o3;have key:f.kind≠5→mO (partOf id (.mk kind n s ids l) inner)=.mk kind n s ids l:=by
  intro h5;have hk2:kind≠2:=by rw[h1];unfold kindOf;split <;> (try split) <;> simp_all
  obtain⟨rfl,rfl⟩:=o1 hk2
  by_cases hk1:kind=1
  ·subst hk1;rfl
  ·have hs:=PI (o3 hk1);simp[mO,partOf,aj.kind,aj.n,aj.s,hk1,hs]
 refine⟨?_,key⟩
 by_cases h5:f.kind=5
 ·have hk2:kind=2:=by rw[h1];unfold kindOf;simp[h5]
  subst hk2;have hn:=o2 (by decide);unfold eO;simp[mO,partOf,aj.kind,←h1,vV,aj.ids,aj.l,aj.n,aj.s,hn,h5];rw[if_pos (by decide)];exact if_pos rfl
 ·rw[key h5];exact h
def jI:List Int→List aj→List Part
 | id::ids,x::l=>partOf id x (dI x).1::jI ids l
 | _,_=>[]
theorem Qr:∀ (l:List aj) (ids:List Int) (acc:List Part),ids.length=l.length→(∀ x∈l,x.kind=2→(dI x).2=0)→eH ids l acc=(acc++jI ids l,0)
 | [],ids,acc,h,_=>by
  have:ids=[]:=List.eq_nil_of_length_eq_zero (by simpa using h);subst this;simp[eH,jI]
 | x::l,[],acc,h,_=>by simp at h
 | x::l,id::ids,acc,h,hx=>by
  rw[eH,if_neg (by intro h1;exact h1.2 (hx x (by simp) h1.1)),Qr l ids _ (by simpa using h) (fun y hy=>hx y (by simp[hy])),jI];simp
theorem BA:∀ (l:List aj) (ids:List Int) (acc:List Part),ids.length=l.length→(eH ids l acc).2=0→∀ x∈l,x.kind=2→(dI x).2=0
 | [],_,_,_,_=>by simp
 | x::l,[],acc,h,_=>by simp at h
 | x::l,id::ids,acc,h,hx=>by
  rw[eH] at hx;split at hx
  ·rename_i h1;exact absurd hx h1.2
  ·rename_i h1
   have ih:=BA l ids _ (by simpa using h) hx;intro y hy;rcases List.mem_cons.1 hy with rfl | hy
   ·intro h2
    by_cases h3:(dI y).2=0
    ·exact h3
    ·exact absurd ⟨h2,h3⟩ h1
   ·exact ih y hy
theorem OQ {kind n:Int}{s:ByteArray}{ids:List Int}{l:List aj}(hl:ids.length=l.length)(hx:∀ x∈l,x.kind=2→(dI x).2=0):dI (.mk kind n s ids l)=jD (jI ids l) []:=by
 rw[dI,Qr l ids [] hl hx];simp
theorem Ps {b:av}{t:ax}{rec:ax→List UInt8→aj × Int}:∀ (l:List aj) (ids:List Int) (last:Option Int) (ai:List Int) (al:List aj),ids.length=l.length →
  (∀ id∈ids,(aC t id).isSome=true∧∀ k,last=some k→mR t k id)→ids.Pairwise (mR t)→(∀ p∈ids.zip l,vR b t p.1 p.2) →
  (∀ i∈ai,∃ k,last=some k∧i≤k) →
  (∀ x∈l,∀ t',x.kind=2→cz b t' x=0→(∃ f,iC b f∧f.kind=5∧typeOf b f.type=t')→rec t' (dI x).1=(x,0))→(∀ f∈t.fields,iC b f) →
  gm b rec t last (jI ids l) ai al=((ai++ids,al++l),0)
 | [],ids,last,ai,al,h,_,_,_,_,_,_=>by
  have:ids=[]:=List.eq_nil_of_length_eq_zero (by simpa using h);subst this;simp[jI,gm]
 | x::l,[],last,ai,al,h,_,_,_,_,_,_=>by simp at h
 | x::l,id::ids,last,ai,al,h,hk,hp,hf,ha,hr,hgf=>by
  have hid:=hk id (by simp);obtain⟨f,hff⟩:=Option.isSome_iff_exists.1 hid.1;have hfit:=hf (id,x) (by simp);unfold vR at hfit;simp only[hff,Option.getD_some] at hfit;have hp':=List.pairwise_cons.1 hp;have ih:=Ps l ids (some id) (ai++[id]) (al++[x]) (by simpa using h) (fun i hi=>⟨(hk i (by simp[hi])).1,fun k hk'=>by cases hk';exact hp'.1 i hi⟩) hp'.2 (fun p hp=>hf p (by simp[hp]))
   (fun i hi=>by
    rcases List.mem_append.1 hi with hi | hi
    ·obtain⟨k,hk1,hk2⟩:=ha i hi;have:=(hid.2 k hk1).1;exact⟨id,rfl,by omega⟩
    ·simp at hi;exact⟨id,rfl,by omega⟩) (fun y hy=>hr y (by simp[hy])) hgf
  obtain⟨q1,q2⟩:=Bg hfit.1 id (dI x).1;have hfall:nQ last (partOf id x (dI x).1).id=false:=by
   unfold nQ;cases hl:last with
   | none=>rfl
   | some k=>exact decide_eq_false (Int.not_lt.2 (hid.2 k hl).1)
  have htwice:¬ (f.rule≠3∧dV ai (partOf id x (dI x).1).id=true):=by
   rintro⟨h1,h2⟩;rw[ow] at h2;have h2:id∈ai:=h2;obtain⟨k,hk1,hk2⟩:=ha id h2;have:=hid.2 k hk1;have e:k=id:=by have:=this.1;omega
   have:=this.2 e;rw[e,hff] at this;exact h1 this
  rw[jI,gm,if_neg (by rw[hfall];decide)];have hpid:(partOf id x (dI x).1).id=id:=rfl;rw[hpid] at htwice ⊢;rw[hff];simp only;rw[if_neg (by simpa using q1),if_neg htwice]
  by_cases h5:f.kind=5
  ·rw[if_pos h5];have hx2:x.kind=2:=by rw[(ja hfit.1).1];unfold kindOf;simp[h5]
   have hs:bytes (partOf id x (dI x).1).s=(dI x).1:=by simp only[partOf,if_pos hx2]
   have:=hr x (by simp) _ hx2 (hfit.2 h5) ⟨f,hgf f (bE hff).1,h5,rfl⟩;rw[hs,this];simp only[ne_eq,not_true,if_false];rw[ih];simp
  ·rw[if_neg h5,q2 h5,ih];simp
theorem aeT {b:av}(hg:aB b=0):∀ (k:Nat) (v:aj) (t:ax),aD v≤k→dU b t→cz b t v=0→(dI v).2=0→iN b k t (dI v).1=(v,0)
 | 0,.mk _ _ _ _ _,_,hd,_,_,_=>by rw[aD] at hd;omega
 | k+1,.mk kind n s ids l,t,hd,hm,ht,he=>by
  obtain⟨a1,a2,a3,a4,a5,a6,a7,a8⟩:=(iO b t _).1 ht;simp only[aj.kind,aj.ids,aj.l,aj.n,aj.s] at a1 a2 a3 a4 a5 a6 a7 a8;subst a1 a3;have hin:∀ x∈l,x.kind=2→(dI x).2=0:=by
   rw[dI] at he;split at he
   ·rename_i h1;exact absurd he h1
   ·rename_i h1
    exact BA l ids [] a2 (by simpa using h1)
  have hdl:∀ x∈l,aD x≤k:=by
   rw[aD] at hd;have:∀ (l:List aj) (x:aj),x∈l→aD x≤gJ l:=by
    intro l
    induction l with
    | nil=>intro x hx;cases hx
    | cons y l ih =>
     intro x hx;rw[gJ];rcases List.mem_cons.1 hx with rfl | hx
     ·omega
     ·have:=ih x hx;omega
   intro x hx;have:=this l x hx;omega
  rw[OQ a2 hin] at he ⊢;have hdec:=Fy (l:=jI ids l) (r:=(jD (jI ids l) []).1) (by rw[←he]);rw[iN,hdec];simp only[ne_eq,not_true,if_false];rw[Ps l ids none [] [] a2 (fun i hi=>⟨a5 i hi,fun k hk=>by cases hk⟩) a6 a7 (fun i hi=>by cases hi) (fun x hx t' hx2 htx ⟨f,hf,hf5,hft⟩=>by
   obtain⟨t2,_,h2,_,_,_,hm2⟩:=gZ hg hf hf5;rw[h2] at hft;subst hft;exact aeT hg k x _ (hdl x hx) hm2 htx (hin x hx hx2)) (fun f hf=>bC hm hf)]
  simp only[List.nil_append,not_true,if_false];rw[ahk hm 4 a2 a5 a6 a8,vI,PI a4]
theorem GL:∀ {l:List aj} {x:aj},x∈l→aW x≤cO l
 | [],_,h=>by cases h
 | y::l,x,h=>by
  rw[cO];rcases List.mem_cons.1 h with rfl | h
  ·omega
  ·have:=GL h;omega
theorem rW:∀ {l:List aj} {x:aj},x∈l→aD x≤gJ l
 | [],_,h=>by cases h
 | y::l,x,h=>by
  rw[gJ];rcases List.mem_cons.1 h with rfl | h
  ·omega
  ·have:=rW h;omega
theorem Am {n:Nat}:∀ {l:List aj},(∀ x∈l,aD x≤n)→gJ l≤n
 | [],_=>by simp[gJ]
 | y::l,h=>by
  rw[gJ];have:=h y (by simp);have:=Am (l:=l) (fun x hx=>h x (by simp[hx]));omega
theorem QZ (v:aj):1≤aW v:=by
 obtain⟨_,_,_,_,l⟩:=v;rw[aW];omega
theorem JK {n:Nat}(h:n<128):(sev n).length=1:=by rw[sO h];rfl
theorem aju {n:Nat}(h:n<2097152):(sev n).length≤3:=Yn 2 n (Nat.lt_of_lt_of_le h (by decide))
theorem agP {b:av}(hg:aB b=0){f:ay}(hf:iC b f){x:aj}(h:eO b f x=0){inner:List UInt8}(hi:x.kind=2→inner.length≤46*(aW x-1))(hc:aW x≤400) :
  iW (partOf f.id x inner)=true∧(lN (partOf f.id x inner)).length≤46*aW x:=by
 obtain⟨h1,h2⟩:=ja h;obtain⟨o1,o2,o3⟩:=rD.1 h2;have hpos:=QZ x;have hf0:=hf;obtain⟨_,i1,i2,k1,k2,r1,r2,_⟩:=hf;have hkey:(4*f.id+x.kind).toNat<128∧0≤x.kind∧x.kind≤2:=by
  rw[h1];unfold kindOf;split <;> (try split) <;> omega
 obtain⟨hkey,hk0,hk2⟩:=hkey
 by_cases h5:f.kind=5
 ·have hx:x.kind=2:=by rw[h1,h5];rfl
  have hn:=o2 (by omega);have hi:=hi hx;have hsz:(partOf f.id x inner).s.size=inner.length:=by simp only[partOf,if_pos hx];rfl
  have hsb:bytes (partOf f.id x inner).s=inner:=by simp only[partOf,if_pos hx]
  refine⟨?_,?_⟩
  ·have hkk:(partOf f.id x inner).kind=x.kind:=rfl;have hid:(partOf f.id x inner).id=f.id:=rfl;have hnn:(partOf f.id x inner).n=x.n:=rfl;simp only[iW,hsz,hkk,hid,hnn,Bool.and_eq_true,Bool.or_eq_true,decide_eq_true_eq];omega
  ·have hkk:(partOf f.id x inner).kind=x.kind:=rfl;have hid:(partOf f.id x inner).id=f.id:=rfl;unfold lN;rw[hsz,hsb,hkk,hid,if_neg (by omega)];have:=JK hkey;have:=aju (n:=inner.length) (by omega);simp only[List.length_append];omega
 ·have hx2:x.kind≠2:=by rw[h1];unfold kindOf;split <;> (try split) <;> omega
  have hs:(partOf f.id x inner).s=x.s:=by simp only[partOf,if_neg hx2]
  have hkk:(partOf f.id x inner).kind=x.kind:=rfl;have hid:(partOf f.id x inner).id=f.id:=rfl;have hn:(partOf f.id x inner).n=x.n:=rfl
  by_cases h3:f.kind=3
  ·have hx:x.kind=1:=by rw[h1,h3];rfl
   have hxn:=o2 (by omega);have hp:x.s.size≤40:=by
    unfold eO at h;rw[if_neg (by simpa using h1),if_neg (by rw[h2];decide),if_neg (by omega),if_neg (by omega),if_pos h3] at h;split at h
    ·rename_i hp
     simp[qG] at hp;exact hp.2
    ·simp at h
   refine⟨?_,?_⟩
   ·simp only[iW,hs,hkk,hid,hn,Bool.and_eq_true,Bool.or_eq_true,decide_eq_true_eq];omega
   ·unfold lN;rw[hs,hkk,hid,hn,if_neg (by omega)];have:=JK hkey;have:=JK (n:=x.s.size) (by omega);simp only[List.length_append,iY];omega
  ·have hx:x.kind=0:=by rw[h1];unfold kindOf;rw[if_neg h3,if_neg h5]
   have hxs:=o3 (by omega);have hr : -1099511627776≤x.n∧x.n≤1099511627776:=by
    unfold eO at h;rw[if_neg (by simpa using h1),if_neg (by rw[h2];decide)] at h
    by_cases e1:f.kind=1
    ·rw[if_pos e1] at h;split at h
     ·omega
     ·simp at h
    ·rw[if_neg e1] at h
     by_cases e2:f.kind=2
     ·rw[if_pos e2] at h;split at h
      ·simp at h
      ·omega
     ·have e4:f.kind=4:=by omega
      rw[if_neg e2,if_neg h3,if_pos e4] at h;split at h
      ·rename_i hm
       obtain⟨t,_,ht,_,he⟩:=rY hg hf0 e4;have ht':(aM b f.type).getD .zero=t:=ht;rw[ht'] at hm;obtain⟨y,hy,hyn⟩:=List.any_eq_true.1 hm;obtain⟨j,hj,rfl⟩:=List.getElem_of_mem hy;have:=he.1 j hj;have hyn:t.items[j].n=x.n:=by simpa using hyn
       omega
      ·simp at h
   refine⟨?_,?_⟩
   ·simp only[iW,hs,hkk,hid,hn,Bool.and_eq_true,Bool.or_eq_true,decide_eq_true_eq];omega
   ·unfold lN;rw[hkk,hid,hn,if_pos hx];have:=JK hkey;have:=xx (n:=zig x.n) (by unfold zig;split <;> omega);simp only[List.length_append];omega
theorem Mq {b:av}(hg:aB b=0){t:ax}(hm:dU b t):∀ (l:List aj) (ids:List Int),ids.length=l.length→(∀ id∈ids,(aC t id).isSome=true)→(∀ p∈ids.zip l,vR b t p.1 p.2) →
  (∀ x∈l,aW x≤400)→(∀ x∈l,x.kind=2→(dI x).1.length≤46*(aW x-1))→(∀ p∈jI ids l,iW p=true)∧((jI ids l).flatMap lN).length≤46*cO l
 | [],ids,h,_,_,_,_=>by
  have:ids=[]:=List.eq_nil_of_length_eq_zero (by simpa using h);subst this;simp[jI]
 | x::l,[],h,_,_,_,_=>by simp at h
 | x::l,id::ids,h,hk,hf,hc,he=>by
  obtain⟨i1,i2⟩:=Mq hg hm l ids (by simpa using h) (fun i hi=>hk i (by simp[hi])) (fun p hp=>hf p (by simp[hp])) (fun y hy=>hc y (by simp[hy])) (fun y hy=>he y (by simp[hy]));obtain⟨f,hff⟩:=Option.isSome_iff_exists.1 (hk id (by simp));have hfit:=hf (id,x) (by simp);unfold vR at hfit;simp only[hff,Option.getD_some] at hfit;obtain⟨hfm,hfi⟩:=bE hff;subst hfi;obtain⟨p1,p2⟩:=agP hg (bC hm hfm) hfit.1 (inner:=(dI x).1) (he x (by simp)) (hc x (by simp));rw[jI,cO];refine⟨?_,?_⟩
  ·intro p hp;rcases List.mem_cons.1 hp with rfl | hp
   ·exact p1
   ·exact i1 p hp
  ·rw[List.flatMap_cons,List.length_append];omega
theorem Ma {b:av}(hg:aB b=0):∀ (k:Nat) (v:aj) (t:ax),aD v≤k→aW v≤400→dU b t→cz b t v=0→(dI v).2=0∧(dI v).1.length≤46*(aW v-1)
 | 0,.mk _ _ _ _ _,_,hd,_,_,_=>by rw[aD] at hd;omega
 | k+1,.mk kind n s ids l,t,hd,hc,hm,ht=>by
  obtain⟨a1,a2,a3,a4,a5,a6,a7,a8⟩:=(iO b t _).1 ht;simp only[aj.kind,aj.ids,aj.l,aj.n,aj.s] at a1 a2 a3 a4 a5 a6 a7 a8;rw[aD] at hd;rw[aW] at hc;have hin:∀ x∈l,x.kind=2→(dI x).2=0∧(dI x).1.length≤46*(aW x-1):=by
   intro x hx hx2;obtain⟨i,hi,rfl⟩:=List.getElem_of_mem hx;have hz:(ids[i]'(by omega),l[i])∈ids.zip l:=List.mem_iff_getElem.2 ⟨i,by simp;omega,by simp⟩;have hfit:=a7 _ hz;obtain⟨f,hff⟩:=Option.isSome_iff_exists.1 (a5 (ids[i]'(by omega)) (List.getElem_mem _));unfold vR at hfit;simp only[hff,Option.getD_some] at hfit;have hf:=bC hm (bE hff).1;have h5:f.kind=5:=by
    have:=(ja hfit.1).1;rw[hx2] at this;unfold kindOf at this;split at this
    ·simp at this
    ·split at this
     ·assumption
     ·simp at this
   obtain⟨t2,_,h2,_,_,_,hm2⟩:=gZ hg hf h5;have:=GL hx;have:=rW hx;exact Ma hg k l[i] t2 (by omega) (by omega) hm2 (h2 ▸ hfit.2 h5)
  rw[OQ a2 (fun x hx h2=>(hin x hx h2).1)];obtain⟨g1,g2⟩:=Mq hg hm l ids a2 a5 a7 (fun x hx=>by have:=GL hx;omega) (fun x hx h2=>(hin x hx h2).2);rw[LK _ _ g1 (by simp only[List.nil_append];omega),aW];simp only[List.nil_append,true_and];omega
def yE (b:av)(k:Nat)(f:ay):Prop:=f.kind=5→1≤aZ b k f.type
def jU (t:ax):List ay:=t.fields.filter fun g=>decide (g.rule=1)
theorem mY {t:ax}{f:ay}:f∈jU t↔f∈t.fields∧f.rule=1:=by simp[jU]
def Cv (b:av)(k:Nat)(f:ay):Nat:=if f.kind=5 then aZ b k f.type else 1
theorem tq {rec:ByteArray→Nat}:∀ (l:List ay) (n:Nat),1≤dz rec l n →
  (∀ f∈l,f.rule=1→f.kind=5→1≤rec f.type)∧dz rec l n=n+((l.filter fun g=>decide (g.rule=1)).map fun f=>if f.kind=5 then rec f.type else 1).sum
 | [],n,_=>by simp[dz]
 | f::l,n,h=>by
  rw[dz] at h ⊢
  by_cases h1:f.rule=1
  ·rw[if_pos h1] at h ⊢
   by_cases h5:f.kind=5
   ·rw[if_pos h5] at h ⊢
    by_cases h0:rec f.type=0
    ·rw[if_pos h0] at h;omega
    ·rw[if_neg h0] at h ⊢;obtain⟨a,c⟩:=tq l _ h;refine⟨?_,?_⟩
     ·intro g hg;rcases List.mem_cons.1 hg with rfl | hg
      ·intro _ _;omega
      ·exact a g hg
     ·rw[c,List.filter_cons,if_pos (by simpa using h1),List.map_cons,List.sum_cons,if_pos h5];omega
   ·rw[if_neg h5] at h ⊢;obtain⟨a,c⟩:=tq l _ h;refine⟨?_,?_⟩
    ·intro g hg;rcases List.mem_cons.1 hg with rfl | hg
     ·intro _ h;exact absurd h h5
     ·exact a g hg
    ·rw[c,List.filter_cons,if_pos (by simpa using h1),List.map_cons,List.sum_cons,if_neg h5];omega
  ·rw[if_neg h1] at h ⊢;obtain⟨a,c⟩:=tq l _ h;refine⟨?_,?_⟩
   ·intro g hg;rcases List.mem_cons.1 hg with rfl | hg
    ·intro h;exact absurd h h1
    ·exact a g hg
   ·rw[c,List.filter_cons,if_neg (by simpa using h1)]
theorem sN {b:av}{k:Nat}{name:ByteArray}(h:1≤aZ b (k+1) name) :
  ∃ t,aM b name=some t∧t.enum=false∧(∀ f∈jU t,yE b k f)∧aZ b (k+1) name=1+((jU t).map (Cv b k)).sum:=by
 rw[aZ] at h ⊢;cases hf:aM b name with
 | none=>rw[hf] at h;simp at h
 | some t =>
  rw[hf] at h;simp only at h ⊢;split at h
  ·simp at h
  ·rename_i h1
   rw[if_neg h1];obtain⟨a,c⟩:=tq _ _ h;refine⟨t,rfl,by simpa using(not_or.1 h1).1,fun f hf=>?_,c⟩;rw[mY] at hf;exact a f hf.1 hf.2
theorem vL {b:av}:∀ (k:Nat) (name:ByteArray),1≤aZ b k name→aZ b (k+1) name=aZ b k name
 | 0,name,h=>by simp[aZ] at h
 | k+1,name,h=>by
  have key:∀ (l:List ay) (n:Nat),1≤dz (aZ b k) l n→dz (aZ b (k+1)) l n=dz (aZ b k) l n:=by
   intro l
   induction l with
   | nil=>intro n _;rfl
   | cons f l ih =>
    intro n h;have e:=(tq _ _ h).1 f (by simp);rw[dz] at h;rw[dz,dz]
    by_cases h1:f.rule=1
    ·rw[if_pos h1] at h ⊢;rw[if_pos h1]
     by_cases h5:f.kind=5
     ·rw[if_pos h5] at h ⊢;rw[if_pos h5,vL k f.type (e h1 h5)]
      by_cases h0:aZ b k f.type=0
      ·rw[if_pos h0,if_pos h0]
      ·rw[if_neg h0] at h ⊢;rw[if_neg h0];exact ih _ h
     ·rw[if_neg h5] at h ⊢;rw[if_neg h5];exact ih _ h
    ·rw[if_neg h1] at h ⊢;rw[if_neg h1];exact ih _ h
  rw[aZ] at h ⊢
  conv=>rhs;rw[aZ]
  cases hf:aM b name with
  | none=>rfl
  | some t =>
   rw[hf] at h;simp only at h ⊢;split at h
   ·simp at h
   ·rename_i h1
    rw[if_neg h1,if_neg h1];exact key _ _ h
theorem qM {b:av}{k:Nat}{f:ay}(h:f.kind=5):aL b (k+1) f=iE b k (typeOf b f.type):=by
 rw[aL,if_neg (by omega),if_neg (by omega),if_pos h];rfl
theorem IR {b:av}{k:Nat}:∀ (l:List ay),(∀ f∈l,aW (aL b k f)=Cv b k f)→cO (l.map (aL b k))=(l.map (Cv b k)).sum
 | [],_=>rfl
 | f::l,h=>by
  rw[List.map_cons,cO,List.map_cons,List.sum_cons,h f (by simp),IR l (fun g hg=>h g (by simp[hg]))]
theorem yX {b:av}:∀ (k:Nat) (f:ay),yE b k f→aW (aL b k f)=Cv b k f
 | k,f,h=>by
  unfold Cv
  by_cases h5:f.kind=5
  ·rw[if_pos h5];have h1:=h h5;cases k with
   | zero=>simp[aZ] at h1
   | succ k =>
    obtain⟨t,ht,_,he,hc⟩:=sN h1;rw[qM h5,hc,typeOf,ht,iE,vI,aW];have:=IR (b:=b) (k:=k) (jU t) (fun g hg=>yX k g (he g hg));unfold jU at this;simp only[Option.getD_some];rw[this];unfold jU;omega
  ·rw[if_neg h5,aL.eq_def];split
   ·rfl
   ·split
    ·rfl
    ·rfl
theorem vz {b:av}:∀ (k:Nat) (f:ay),aD (aL b k f)≤k+1
 | k,f=>by
  by_cases h5:f.kind=5
  ·cases k with
   | zero=>rw[aL,if_neg (by omega),if_neg (by omega),if_pos h5];simp[aj.zero,aD,gJ]
   | succ k =>
    rw[qM h5,iE,vI,aD];have:=Am (n:=k+1) (l:=(((typeOf b f.type).fields.filter fun g=>decide (g.rule=1)).map (aL b k))) (fun x hx=>by
     obtain⟨g,_,rfl⟩:=List.mem_map.1 hx;exact vz k g)
    omega
  ·rw[aL.eq_def];split
   ·simp[aD,gJ]
   ·split
    ·simp[aD,gJ]
    ·simp[aj.zero,aD,gJ]
theorem Nt {α β γ:Type}{f:α→β}{g:α→γ}:∀ {l:List α} {p:β × γ},p∈(l.map f).zip (l.map g)→∃ x∈l,p=(f x,g x)
 | [],p,h=>by simp at h
 | a::l,p,h=>by
  simp only[List.map_cons,List.zip_cons_cons,List.mem_cons] at h;rcases h with rfl | h
  ·exact⟨a,by simp,rfl⟩
  ·obtain⟨x,hx,e⟩:=Nt h;exact⟨x,by simp[hx],e⟩
theorem uw {t:ax}{i j:Int}(h:i<j):mR t i j:=⟨by omega,fun e=>by omega⟩
theorem JY {b:av}{t:ax}(hm:dU b t){k:Nat}(h:∀ f∈jU t,eO b f (aL b k f)=0∧(f.kind=5→cz b (typeOf b f.type) (aL b k f)=0)):cz b t (iE b k t)=0:=by
 rw[iO];refine⟨rfl,by simp[iE,vI,aj.ids,aj.l],rfl,rfl,?_,?_,?_,?_⟩
 ·intro id hid;obtain⟨f,hf,rfl⟩:=List.mem_map.1 hid;rw[jB hm (List.mem_filter.1 hf).1];rfl
 ·show ((t.fields.filter fun g=>decide (g.rule=1)).map (·.id)).Pairwise (mR t);rw[List.pairwise_map];exact((qo hm).filter _).imp fun h=>uw h
 ·intro p hp;obtain⟨f,hf,rfl⟩:=Nt hp;unfold vR;simp only[jB hm (List.mem_filter.1 hf).1,Option.getD_some];exact h f hf
 ·show qV t ((t.fields.filter fun g=>decide (g.rule=1)).map (·.id))=true;unfold qV;rw[List.all_eq_true];intro f hf
  by_cases h1:f.rule=1
  ·have:dV ((t.fields.filter fun g=>decide (g.rule=1)).map (·.id)) f.id=true:=ow.2 (List.mem_map.2 ⟨f,by simp[hf,h1],rfl⟩);rw[this];simp
  ·simp[h1]
theorem yh {b:av}(hg:aB b=0):∀ (k:Nat) (f:ay),iC b f→yE b k f→eO b f (aL b k f)=0∧(f.kind=5→cz b (typeOf b f.type) (aL b k f)=0)
 | k,f,hf,he=>by
  by_cases h5:f.kind=5
  ·have h1:=he h5;cases k with
   | zero=>simp[aZ] at h1
   | succ k =>
    obtain⟨t,ht,_,hen,_⟩:=sN h1;obtain⟨t2,ht2,hty,_,_,_,hm⟩:=gZ hg hf h5;obtain rfl:t=t2:=by rw[ht] at ht2;exact Option.some.inj ht2
    rw[qM h5,hty];refine⟨?_,fun _=>JY hm fun g hgm=>yh hg k g (bC hm (mY.1 hgm).1) (hen g hgm)⟩;unfold eO;have e1:(iE b k t).kind=2:=rfl;have e2:vV (iE b k t)=false:=rD.2 ⟨fun h=>absurd rfl h,fun _=>rfl,fun _=>rfl⟩;rw[if_neg (by rw[e1,h5];decide),if_neg (by rw[e2];decide),if_neg (by omega),if_neg (by omega),if_neg (by omega),if_neg (by omega)]
  ·refine⟨?_,fun h=>absurd h h5⟩;obtain⟨_,_,_,k1,k2,_⟩:=id hf;unfold eO
   by_cases h3:f.kind=3
   ·have e:aL b k f=.mk 1 0 ⟨#[]⟩ [] []:=by rw[aL.eq_def,if_pos h3]
    rw[e,h3];rfl
   ·by_cases h4:f.kind=4
    ·obtain⟨t,ht,hty,_,hen⟩:=rY hg hf h4;have e:aL b k f=.mk 0 (((typeOf b f.type).items.head?.map (·.n)).getD 0) ⟨#[]⟩ [] []:=by rw[aL.eq_def,if_neg h3,if_pos h4]
     have hit:0<t.items.length:=by have:=hen.2.1;omega
     have hh:(t.items.head?.map (·.n)).getD 0=t.items[0].n:=by rw[List.head?_eq_getElem?,List.getElem?_eq_getElem hit];rfl
     rw[e,hty,hh];have hmean:jT ((aM b f.type).getD .zero) t.items[0].n=true:=by
      rw[ht];exact List.any_eq_true.2 ⟨t.items[0],List.getElem_mem _,by simp⟩
     have e2:vV (.mk 0 t.items[0].n ⟨#[]⟩ [] [])=false:=rD.2 ⟨fun _=>⟨rfl,rfl⟩,fun h=>absurd rfl h,fun _=>rfl⟩;rw[if_neg (by rw[h4];exact fun h=>h rfl),if_neg (by rw[e2];decide),if_neg (by omega),if_neg (by omega),if_neg (by omega),if_pos h4];exact if_pos hmean
    ·have e:aL b k f=.zero:=by rw[aL.eq_def,if_neg h3,if_neg h4,if_neg h5]
     rw[e];have e2:vV .zero=false:=rfl;have e3:kindOf f.kind=0:=by unfold kindOf;rw[if_neg h3,if_neg h5]
     rw[if_neg (by rw[e3];exact fun h=>h rfl),if_neg (by rw[e2];decide)];have:f.kind=1∨f.kind=2:=by omega
     rcases this with h | h
     ·rw[if_pos h];rfl
     ·rw[if_neg (by omega),if_pos h];rfl
theorem oz {b:av}(hg:aB b=0){t:ax}(hm:dU b t){f:ay}(hf:f∈t.fields):yE b 4 f:=by
 intro h5;obtain⟨t2,_,_,hmem,hn,he,_⟩:=gZ hg (bC hm hf) h5;have:=uD hg hmem he;rw[hn] at this;omega
theorem Jg {b:av}{f:ay}{x:aj}(h5:f.kind=5)(h1:x.kind=2)(h2:x.n=0)(h3:x.s.size=0):eO b f x=0:=by
 unfold eO;have e2:vV x=false:=rD.2 ⟨fun h=>absurd h1 h,fun _=>h2,fun _=>h3⟩;rw[if_neg (by rw[h1,h5];decide),if_neg (by rw[e2];decide),if_neg (by omega),if_neg (by omega),if_neg (by omega),if_neg (by omega)]
structure Held (b:av) (t:ax) (last:Option Int) (ai:List Int) (al:List aj):Prop where
 len:ai.length=al.length
 known:∀ id∈ai,(aC t id).isSome=true
 order:ai.Pairwise (mR t)
 fit:∀ p∈ai.zip al,vR b t p.1 p.2
 up:∀ i∈ai,∃ k,last=some k∧i≤k
theorem Held.on {b:av}{t:ax}{last:Option Int}{ai:List Int}{al:List aj}(h:Held b t last ai al){id:Int}(hf:nQ last id=false):Held b t (some id) ai al :=
 ⟨h.len,h.known,h.order,h.fit,fun i hi=>by
  obtain⟨k,hk,hik⟩:=h.up i hi;subst hk;have:¬ id<k:=by simpa[nQ] using hf
  exact⟨id,rfl,by omega⟩⟩
theorem Held.put {b:av}{t:ax}{last:Option Int}{ai:List Int}{al:List aj}(h:Held b t last ai al){id:Int}(hf:nQ last id=false){f:ay}(hff:aC t id=some f)(ht:¬ (f.rule≠3∧dV ai id=true))
  {x:aj} (hx:eO b f x=0) (hx5:f.kind=5→cz b (typeOf b f.type) x=0):Held b t (some id) (ai++[id]) (al++[x]):=by
 have h':=h.on hf;refine⟨by simp[h.len],?_,?_,?_,?_⟩
 ·intro i hi;rcases List.mem_append.1 hi with hi | hi
  ·exact h.known i hi
  ·simp at hi;subst hi;rw[hff];rfl
 ·rw[List.pairwise_append];refine⟨h.order,by simp,?_⟩;intro i hi j hj;simp at hj;subst hj;obtain⟨k,hk,hik⟩:=h'.up i hi;cases hk;refine⟨hik,?_⟩;rintro rfl;rw[hff]
  by_cases h3:f.rule=3
  ·exact h3
  ·exact absurd ⟨h3,ow.2 hi⟩ ht
 ·intro p hp;rw[List.zip_append h.len] at hp;rcases List.mem_append.1 hp with hp | hp
  ·exact h.fit p hp
  ·simp at hp;subst hp;unfold vR;simp only[hff,Option.getD_some];exact⟨hx,hx5⟩
 ·intro i hi;rcases List.mem_append.1 hi with hi | hi
  ·exact h'.up i hi
  ·simp at hi;exact⟨id,rfl,by omega⟩
def QB (p:Part):Nat:=p.s.size+1
theorem nM:∀ (a b:List aj),cO (a++b)=cO a+cO b
 | [],b=>by simp[cO]
 | x::a,b=>by rw[List.cons_append,cO,cO,nM a b];omega
theorem ZJ (p:Part):aW (mO p)=1:=by simp[mO,aW,cO]
theorem ZR (p:Part):aD (mO p)=1:=by simp[mO,aD,gJ]
theorem BH {b:av}{t:ax}{rec:ax→List UInt8→aj × Int}{D:Nat}(hD:1≤D)(hgf:∀ f∈t.fields,iC b f)
  (hr:∀ f s,iC b f→f.kind=5→(rec (typeOf b f.type) s).2=0→cz b (typeOf b f.type) (rec (typeOf b f.type) s).1=0∧aW (rec (typeOf b f.type) s).1≤12+12*s.length∧aD (rec (typeOf b f.type) s).1≤D) :
  ∀ (ps:List Part) (last:Option Int) (ai:List Int) (al:List aj),Held b t last ai al→(∀ x∈al,aD x≤D)→(gm b rec t last ps ai al).2=0 →
  (∃ last',Held b t last' (gm b rec t last ps ai al).1.1 (gm b rec t last ps ai al).1.2)∧(∀ x∈(gm b rec t last ps ai al).1.2,aD x≤D)∧cO (gm b rec t last ps ai al).1.2≤cO al+12*(ps.map QB).sum
 | [],last,ai,al,h,hd,_=>⟨⟨last,h⟩,hd,by simp[gm]⟩
 | p::ps,last,ai,al,h,hd,he=>by
  rw[gm] at he ⊢;rw[List.map_cons,List.sum_cons]
  by_cases h1:nQ last p.id=true
  ·rw[if_pos h1] at he;simp at he
  ·rw[if_neg h1] at he ⊢;have hfa:nQ last p.id=false:=by simpa using h1
   cases hff:aC t p.id with
   | none =>
    rw[hff] at he;simp only at he ⊢;obtain⟨a1,a2,a3⟩:=BH hD hgf hr ps _ ai al (h.on hfa) hd he;exact⟨a1,a2,by omega⟩
   | some f =>
    rw[hff] at he;simp only at he ⊢
    by_cases h2:eO b f (mO p)=0
    ·rw[if_neg (by simpa using h2)] at he ⊢
     by_cases h3:f.rule≠3∧dV ai p.id=true
     ·rw[if_pos h3] at he;simp at he
     ·rw[if_neg h3] at he ⊢
      by_cases h5:f.kind=5
      ·rw[if_pos h5] at he ⊢
       by_cases h6:(rec (typeOf b f.type) (bytes p.s)).2=0
       ·rw[if_neg (by simpa using h6)] at he ⊢;obtain⟨r1,r2,r3⟩:=hr f _ (hgf f (bE hff).1) h5 h6;have ht:=(iO b _ _).1 r1;obtain⟨a1,a2,a3⟩:=BH hD hgf hr ps _ _ _ (h.put hfa hff h3 (Jg h5 ht.1 ht.2.2.1 ht.2.2.2.1) (fun _=>r1)) (fun x hx=>by
         rcases List.mem_append.1 hx with hx | hx
         ·exact hd x hx
         ·simp at hx;subst hx;exact r3) he
        refine⟨a1,a2,?_⟩;rw[nM] at a3;simp only[cO,iY] at a3 r2;unfold QB at a3 ⊢;omega
       ·rw[if_pos h6] at he;exact absurd he h6
      ·rw[if_neg h5] at he ⊢;obtain⟨a1,a2,a3⟩:=BH hD hgf hr ps _ _ _ (h.put hfa hff h3 h2 (fun h=>absurd h h5)) (fun x hx=>by
        rcases List.mem_append.1 hx with hx | hx
        ·exact hd x hx
        ·simp at hx;subst hx;rw[ZR];exact hD) he
       refine⟨a1,a2,?_⟩;rw[nM] at a3;simp only[cO,ZJ] at a3;unfold QB at a3 ⊢;omega
    ·rw[if_pos h2] at he;exact absurd he h2
theorem tQ {b:av}{k:Nat}{ids:List Int}{l:List aj}{f:ay}{p:Int × aj}(h:p∈eQ b k ids l f):p.1=f.id∧((p=(f.id,aL b k f)∧f.rule=1)∨p∈ids.zip l):=by
 unfold eQ at h;rcases List.mem_append.1 h with h | h
 ·split at h
  ·rename_i h1
   simp at h;subst h;exact⟨rfl,.inl ⟨rfl,h1.1⟩⟩
  ·simp at h
 ·simp only[List.mem_filter,decide_eq_true_eq] at h;exact⟨h.2,.inr h.1⟩
theorem XZ {b:av}(hg:aB b=0){t:ax}(hm:dU b t){last:Option Int}{ids:List Int}{l:List aj}(h:Held b t last ids l):cz b t (kz b 4 t ids l)=0:=by
 rw[iO];have hmem:∀ p∈t.fields.flatMap (eQ b 4 ids l),∃ f∈t.fields,p∈eQ b 4 ids l f:=fun p hp=>by simpa using hp
 refine⟨rfl,by simp[kz,vI,aj.ids,aj.l],rfl,rfl,?_,?_,?_,?_⟩
 ·intro id hid;obtain⟨p,hp,rfl⟩:=List.mem_map.1 hid;obtain⟨f,hf,hpf⟩:=hmem p hp;rw[(tQ hpf).1,jB hm hf];rfl
 ·show ((t.fields.flatMap (eQ b 4 ids l)).map (·.1)).Pairwise (mR t);rw[List.pairwise_map,List.pairwise_flatMap];refine⟨?_,?_⟩
  ·intro f hf;unfold eQ;have hfl:((ids.zip l).filter fun p=>decide (p.1=f.id)).Pairwise (fun p q=>mR t p.1 q.1):=(DW ids l h.order).filter _;split
   ·rename_i h1
    have:((ids.zip l).filter fun p=>decide (p.1=f.id))=[]:=by
     rw[List.filter_eq_nil_iff];intro p hp;simp only[decide_eq_true_eq];intro e;have h2:=h1.2;rw[←e,ow.2 (List.of_mem_zip hp).1] at h2;cases h2
    rw[this];simp
   ·rw[List.nil_append];exact hfl
  ·refine(qo hm).imp fun {f g} hfg p hp q hq=>?_
   rw[(tQ hp).1,(tQ hq).1];exact uw hfg
 ·intro p hp;have hz:p∈t.fields.flatMap (eQ b 4 ids l):=by
   have:∀ (L:List (Int × aj)),(L.map (·.1)).zip (L.map (·.2))=L:=by
    intro L;induction L with
    | nil=>rfl
    | cons a L ih=>simp[ih]
   have hp':p∈((t.fields.flatMap (eQ b 4 ids l)).map (·.1)).zip ((t.fields.flatMap (eQ b 4 ids l)).map (·.2)):=hp
   rwa [this] at hp'
  obtain⟨f,hf,hpf⟩:=hmem p hz;obtain⟨e,h1 | h1⟩:=tQ hpf
  ·rw[h1.1];unfold vR;simp only[jB hm hf,Option.getD_some];exact yh hg 4 f (bC hm hf) (oz hg hm hf)
  ·exact h.fit p h1
 ·show qV t ((t.fields.flatMap (eQ b 4 ids l)).map (·.1))=true;unfold qV;rw[List.all_eq_true];intro f hf
  by_cases h1:f.rule=1
  ·have:dV ((t.fields.flatMap (eQ b 4 ids l)).map (·.1)) f.id=true:=by
    rw[ow,List.mem_map]
    by_cases h2:dV ids f.id=true
    ·have h2':=ow.1 h2;obtain⟨i,hi,he⟩:=List.getElem_of_mem h2';refine⟨(ids[i],l[i]'(by have:=h.len;omega)),List.mem_flatMap.2 ⟨f,hf,?_⟩,he⟩;unfold eQ;refine List.mem_append.2 (.inr (List.mem_filter.2 ⟨?_,by simpa using he⟩));exact List.mem_iff_getElem.2 ⟨i,by have:=h.len;simp;omega,by simp⟩
    ·refine⟨(f.id,aL b 4 f),List.mem_flatMap.2 ⟨f,hf,?_⟩,rfl⟩;unfold eQ;refine List.mem_append.2 (.inl ?_);rw[if_pos ⟨h1,by simpa using h2⟩];simp
   rw[this];simp
  ·simp[h1]
theorem Xk {b:av}(hg:aB b=0){t:ax}(ht:t∈b)(hfi:aM b t.name=some t)(he:t.enum=false){last:Option Int}{ids:List Int}{l:List aj}(h:Held b t last ids l):aW (kz b 4 t ids l)≤12+cO l:=by
 have hm:=bq hg ht he;have h1:=uD hg ht he;obtain⟨t2,ht2,_,hen,hc⟩:=sN (k:=4) (by rw[vL 4 t.name h1.1];exact h1.1);obtain rfl:t=t2:=by rw[hfi] at ht2;exact Option.some.inj ht2
 rw[vL 4 t.name h1.1] at hc;have key:∀ (F:List ay),(∀ f∈F,f∈t.fields)→cO ((F.flatMap (eQ b 4 ids l)).map (·.2))≤((F.filter fun g=>decide (g.rule=1)).map (Cv b 4)).sum+cO ((F.flatMap (fun f=>(ids.zip l).filter fun p=>decide (p.1=f.id))).map (·.2)):=by
  intro F
  induction F with
  | nil=>intro _;simp[cO]
  | cons f F ih =>
   intro hF;have ih:=ih (fun g hg=>hF g (by simp[hg]));rw[List.flatMap_cons,List.map_append,nM,List.flatMap_cons,List.map_append,nM]
   conv=>lhs;lhs;unfold eQ
   rw[List.map_append,nM]
   by_cases hr:f.rule=1
   ·have ef:(f::F).filter (fun g=>decide (g.rule=1))=f::F.filter (fun g=>decide (g.rule=1)):=by simp[hr]
    rw[ef,List.map_cons (f:=Cv b 4),List.sum_cons];have:cO ((if f.rule=1∧dV ids f.id=false then [(f.id,aL b 4 f)] else []).map (·.2))≤Cv b 4 f:=by
     split
     ·simp only[List.map_cons,List.map_nil,cO];rw[yX 4 f (hen f (mY.2 ⟨hF f (by simp),hr⟩))];omega
     ·simp[cO]
    omega
   ·have ef:(f::F).filter (fun g=>decide (g.rule=1))=F.filter (fun g=>decide (g.rule=1)):=by simp[hr]
    rw[ef,if_neg (fun h=>hr h.1)];simp only[List.map_nil,cO];omega
 have k1:=key t.fields (fun f hf=>hf);have e2:t.fields.flatMap (fun f=>(ids.zip l).filter fun p=>decide (p.1=f.id))=ids.zip l:=by
  have:t.fields.flatMap (fun f=>(ids.zip l).filter fun p=>decide (p.1=f.id))=(t.fields.map (·.id)).flatMap (fun i=>(ids.zip l).filter fun p=>decide (p.1=i)):=by
   rw[List.flatMap_map]
  rw[this];refine sZ _ _ ?_ ((DW ids l h.order).imp fun h=>h.1) ?_
  ·rw[List.pairwise_map];exact qo hm
  ·intro p hp;obtain⟨f,hf⟩:=Option.isSome_iff_exists.1 (h.known p.1 (List.of_mem_zip hp).1);have:=bE hf;exact List.mem_map.2 ⟨f,this.1,this.2⟩
 rw[e2,OZ _ _ h.len] at k1;unfold kz vI;rw[aW];unfold jU at hc;omega
theorem Xc {b:av}{t:ax}{ids:List Int}{l:List aj}{D:Nat}(hD:5≤D)(h:∀ x∈l,aD x≤D):aD (kz b 4 t ids l)≤D+1:=by
 unfold kz vI;rw[aD];have:=Am (n:=D) (l:=(t.fields.flatMap (eQ b 4 ids l)).map (·.2)) (fun x hx=>by
  obtain⟨p,hp,rfl⟩:=List.mem_map.1 hx;obtain⟨f,hf,hpf⟩:=List.mem_flatMap.1 hp;obtain⟨_,h1 | h1⟩:=tQ hpf
  ·rw[h1.1];have:=vz (b:=b) 4 f;simp only;omega
  ·exact h _ (List.of_mem_zip h1).2)
 omega
theorem aiT (b:av)(t:ax):Held b t none [] []:=⟨rfl,by simp,by simp,by simp,by simp⟩
theorem akB (n:Nat):1≤(sev n).length:=by
 have:=ajD n;cases h:sev n with
 | nil=>exact absurd h this
 | cons a l=>simp
theorem ahf {p:Part}(h:iW p=true):QB p≤(lN p).length:=by
 have hb:=yK h;unfold QB lN;have:=akB (4*p.id+p.kind).toNat;rw[List.length_append]
 by_cases hk:p.kind=0
 ·have:=hb.2.2.2.2.2.2.2.1 hk;rw[if_pos hk];omega
 ·rw[if_neg hk,List.length_append,iY];omega
theorem Su:∀ (l:List Part),(∀ p∈l,iW p=true)→(l.map QB).sum≤(l.flatMap lN).length
 | [],_=>by simp
 | p::l,h=>by
  rw[List.map_cons,List.sum_cons,List.flatMap_cons,List.length_append];have:=ahf (h p (by simp));have:=Su l (fun q hq=>h q (by simp[hq]));omega
theorem adT {s:List UInt8}(h:(mV s).2=0):((mV s).1.map QB).sum≤s.length:=by
 have h1:=VH (s:=s) (l:=(mV s).1) (by rw[←h]);obtain⟨e1,e2,_⟩:=Jp _ _ _ h1;have:=Su _ e2;rw[List.nil_append] at e1;have:=congrArg List.length e1;omega
theorem KJ {b:av}(hg:aB b=0):∀ (k:Nat) (t:ax) (s:List UInt8),t∈b→aM b t.name=some t→t.enum=false→(iN b k t s).2=0 →
  cz b t (iN b k t s).1=0∧aW (iN b k t s).1≤12+12*s.length∧aD (iN b k t s).1≤k+5
 | 0,t,s,_,_,_,h=>by simp[iN] at h
 | k+1,t,s,ht,hfi,hen,h=>by
  have hm:=bq hg ht hen;rw[iN] at h ⊢
  by_cases h1:(mV s).2=0
  ·rw[if_neg (by simpa using h1)] at h ⊢
   by_cases h2:(gm b (iN b k) t none (mV s).1 [] []).2=0
   ·rw[if_neg (by simpa using h2)];obtain⟨⟨last,hh⟩,hd,hc⟩:=BH (D:=k+5) (by omega) (fun f hf=>bC hm hf) (fun f s' hf h5 hr=>by
     obtain⟨t2,a1,a2,a3,a4,a5,a6⟩:=gZ hg hf h5;rw[a2] at hr ⊢;exact KJ hg k t2 s' a3 (by rw[a4];exact a1) a5 hr) (mV s).1 none [] [] (aiT b t) (by simp) h2
    refine⟨XZ hg hm hh,?_,?_⟩
    ·have:=Xk hg ht hfi hen hh;have:=adT h1;simp only[cO] at hc;show aW (kz b 4 t _ _)≤_;omega
    ·have:=Xc (b:=b) (t:=t) (ids:=(gm b (iN b k) t none (mV s).1 [] []).1.1) (D:=k+5) (by omega) hd;show aD (kz b 4 t _ _)≤_;omega
   ·rw[if_pos h2] at h;exact absurd h h2
  ·rw[if_pos h1] at h;exact absurd h h1
theorem gK {b:av}{name:ByteArray}(h:dW b name=false):∃ t,aM b name=some t∧typeOf b name=t∧t∈b∧t.name=name∧t.enum=false:=by
 unfold dW at h;cases hf:aM b name with
 | none=>rw[hf] at h;cases h
 | some t =>
  rw[hf] at h;exact⟨t,rfl,by rw[typeOf,hf];rfl,(eU hf).1,(eU hf).2,h⟩
theorem nX {b:av}{name:ByteArray}{v:aj}(h:dQ b name v=0):aB b=0∧dW b name=false∧jA v=true∧cz b (typeOf b name) v=0:=by
 unfold dQ at h;split at h
 ·simp at h
 ·split at h
  ·simp at h
  ·split at h
   ·simp at h
   ·rename_i h1 h2 h3
    exact⟨by simpa using h1,by simpa using h2,by simpa using h3,h⟩
theorem pR {v:aj}:jA v=true↔aD v≤24∧aW v≤400:=by unfold jA;simp
theorem xN {b:av}{name:ByteArray}{v:aj}(h:dQ b name v=0):(dI v).2=0∧(dI v).1.length≤20000∧fZ b name (dI v).1=(v,0):=by
 obtain⟨hg,hn,hs,ht⟩:=nX h;obtain⟨t,_,e2,hm,_,he⟩:=gK hn;obtain⟨hd,hc⟩:=pR.1 hs;have hmp:=bq hg hm he;rw[e2] at ht;obtain⟨q1,q2⟩:=Ma hg 24 v t hd hc hmp ht;have q3:=aeT hg 24 v t hd hmp ht q1;refine⟨q1,by omega,?_⟩;unfold fZ;rw[if_neg (by simpa using hg),if_neg (by rw[hn];decide),e2,q3];simp[hs]
theorem rU {b:av}{name:ByteArray}{v:aj}:(iF b name v).2=dQ b name v∧((iF b name v).2≠0→(iF b name v).1=[])∧((iF b name v).2=0→iF b name v=((dI v).1,0)):=by
 unfold iF
 by_cases h:dQ b name v=0
 ·obtain⟨q,_⟩:=xN h;rw[if_neg (by simpa using h)];refine⟨by rw[q,h],fun hn=>absurd q hn,fun _=>by rw[←q]⟩
 ·rw[if_pos h];exact⟨rfl,fun _=>rfl,fun h0=>absurd h0 h⟩
theorem Kz {b:av}{name:ByteArray}{s:List UInt8}(h:(fZ b name s).2=0):dQ b name (fZ b name s).1=0:=by
 unfold fZ at h ⊢;split at h
 ·simp at h
 ·rename_i h1
  split at h
  ·simp at h
  ·rename_i h2
   split at h
   ·rename_i h3;exact absurd h h3
   ·rename_i h3
    split at h
    ·simp at h
    ·rename_i h4
     rw[if_neg h1,if_neg h2,if_neg h3,if_neg h4];have hg:aB b=0:=by simpa using h1
     obtain⟨t,e1,e2,hm,e3,he⟩:=gK (b:=b) (name:=name) (by simpa using h2);unfold dQ;rw[if_neg h1,if_neg h2,if_neg h4];rw[e2] at h3 ⊢;exact(KJ hg 24 t s hm (by rw[e3];exact e1) he (by simpa using h3)).1
theorem EP {b:av}(hg:aB b=0){name:ByteArray}(hn:dW b name=false)(s:List UInt8):aW (iN b 24 (typeOf b name) s).1≤240012∧aD (iN b 24 (typeOf b name) s).1≤29:=by
 obtain⟨t,e1,e2,hm,e3,he⟩:=gK hn;rw[e2]
 by_cases h:(iN b 24 t s).2=0
 ·obtain⟨_,a,c⟩:=KJ hg 24 t s hm (by rw[e3];exact e1) he h;have:s.length≤20000:=by
   rw[iN] at h
   by_cases h1:(mV s).2=0
   ·unfold mV at h1;split at h1
    ·simp at h1
    ·omega
   ·rw[if_pos h1] at h;exact absurd h h1
  omega
 ·have:(iN b 24 t s).1=.zero:=by
   rw[iN] at h ⊢;split
   ·rfl
   ·split
    ·rfl
    ·rename_i h1 h2
     rw[if_neg h1,if_neg h2] at h;exact absurd rfl h
  rw[this];simp[aj.zero,aW,cO,aD,gJ]
theorem pJ:∀ (k k':Nat) (l:List UInt8),l.length≤k→l.length≤k'→jJ k l=jJ k' l
 | 0,k',l,h,_=>by
  obtain rfl:l=[]:=List.eq_nil_of_length_eq_zero (by omega);cases k' <;> rfl
 | k+1,k',[],_,_=>by cases k' <;> rfl
 | k+1,0,c::l,_,h=>by simp at h
 | k+1,k'+1,c::l,h,h'=>by
  have h1:l.length≤k:=by simpa using h
  have h2:l.length≤k':=by simpa using h'
  have hd:∀ p:UInt8→Bool,(l.dropWhile p).length≤l.length:=fun p=>(List.dropWhile_suffix p).length_le
  rw[jJ,jJ,pJ k k' l h1 h2,pJ k k' (l.dropWhile isLet) (by have:=hd isLet;omega) (by have:=hd isLet;omega),pJ k k' (l.dropWhile jK) (by have:=hd jK;omega) (by have:=hd jK;omega)]
def Spl (l:List UInt8)(ws:List ByteArray):Prop:=jJ l.length l=some ws
theorem Spl.nil:Spl [] []:=rfl
theorem Spl.sign {c:UInt8}{l:List UInt8}{ws:List ByteArray}(h:nV c=false)(h2:tX c=true)(hs:Spl l ws):Spl (c::l) (⟨#[c]⟩::ws):=by
 unfold Spl at *;rw[List.length_cons,jJ,if_neg (by simp[h]),if_pos h2,hs];rfl
def Bw (p:UInt8→Bool)(l:List UInt8):Prop:=∀ c,l.head? = some c→p c=false
theorem LP {p:UInt8→Bool}{w l:List UInt8}(ha:∀ c∈w,p c=true)(hl:Bw p l):(w++l).takeWhile p=w∧(w++l).dropWhile p=l:=by
 rw[List.takeWhile_append_of_pos ha,List.dropWhile_append_of_pos ha];cases l with
 | nil=>simp
 | cons c l =>
  have:=hl c rfl;simp[List.takeWhile_cons,List.dropWhile_cons,this]
theorem afH {c:UInt8}(h:isLet c=true):nV c=false∧tX c=false:=by
 simp only[isLet,nV,tX,decide_eq_true_eq,decide_eq_false_iff_not] at *;omega
theorem Spl.word {w l:List UInt8}{ws:List ByteArray}(hw:w≠[])(ha:∀ c∈w,isLet c=true)(hl:Bw isLet l)(hs:Spl l ws):Spl (w++l) (⟨w.toArray⟩::ws):=by
 cases w with
 | nil=>exact absurd rfl hw
 | cons c w =>
  have hc:=ha c (by simp);obtain⟨h1,h2⟩:=afH hc;obtain⟨e1,e2⟩:=LP (w:=w) (l:=l) (fun x hx=>ha x (by simp[hx])) hl;unfold Spl at *;rw[List.cons_append,List.length_cons,jJ,if_neg (by simp[h1]),if_neg (by simp[h2]),if_pos hc,e1,e2,pJ _ l.length l (by simp) (Nat.le_refl _),hs];rfl
theorem uT:∀ (k u:Nat),u<10 ^ (k+1)→(Lib.decDigits u).length≤k+1
 | 0,u,h=>by rw[Lib.decDigits,dif_pos (by simpa using h)];simp
 | k+1,u,h=>by
  rw[Lib.decDigits];split
  ·simp
  ·have:=uT k (u / 10) (by rw[Nat.pow_succ] at h;omega);simp only[List.length_append,List.length_singleton];omega
theorem Qn {n:Int}(h1 : -1099511627776≤n)(h2:n≤1099511627776):(Lib.itoa n).length≤14:=by
 unfold Lib.itoa;split
 ·have:=uT 12 n.natAbs (by omega);simp only[List.length_cons];omega
 ·have:=uT 12 n.toNat (by omega);omega
structure fD where
 book:av
 parents:List Int
 deriving DecidableEq
structure gD where
 name:ByteArray
 commit:Int
 policy:Int
 deriving DecidableEq
def gD.zero:gD:=⟨⟨#[]⟩,0,0⟩
structure mG where
 kind:Int
 n:Int
 m:Int
 name:ByteArray
 other:ByteArray
 text:ByteArray
structure kR where
 code:Int
 n:Int
 text:ByteArray
 flaws:List aX
 deriving DecidableEq
structure cK where
 cs:List fD
 rs:List gD
 acts:Int
def cK.new:cK:=⟨[],[],0⟩
def dY (e:Int):kR:=⟨e,0,⟨#[]⟩,[]⟩
def oJ (n:Int):kR:=⟨0,n,⟨#[]⟩,[]⟩
def kG (l:List fD)(i:Nat):List Int:=((l[i]?).map (·.parents)).getD []
def ib (l:List fD)(i:Int):av:=((l[i.toNat]?).map (·.book)).getD []
def nK (i:Nat)(m:List Bool)(p:Int):List Bool:=if 0≤p∧p<i then m.set p.toNat true else m
def kD (l:List fD):Nat→List Bool→List Int
 | 0,_=>[]
 | i+1,m=>if m.getD i false then (i:Int)::kD l i ((kG l i).foldl (nK i) m) else kD l i m
def dZ (l:List fD)(n:Int):List Int :=
 if n<0∨l.length≤n then [] else (kD l (n.toNat+1) ((List.replicate l.length false).set n.toNat true)).reverse
def iR:List (List aX)→List aX
 | []=>[]
 | f::r=>if f=[] then iR r else f
def abB (l:List fD)(policy c a:Int)(t:ax):List (List aX) :=
 (if policy % 2=1 then [(dH (ib l a) (ib l c) t.name).1] else [])++(if 2≤policy then [(dH (ib l c) (ib l a) t.name).1] else [])
def Ga (l:List fD)(policy c a:Int):List (List aX):=if a=c then [] else (ib l a).flatMap (abB l policy c a)
def ji (l:List fD)(n policy:Int):List aX :=
 if policy=0 then [] else iR ((dZ l n).flatMap fun c=>(dZ l c).flatMap (Ga l policy c))
def xz (l:List fD)(a b:Int):Int:=(((dZ l a).filter fun n=>dV (dZ l b) n).getLast?).getD (-1)
def fB (rs:List gD)(name:ByteArray):Nat:=(rs.takeWhile fun x=>decide (ltS x.name name)).length
def qJ (rs:List gD)(name:ByteArray):Bool:=decide (((rs[fB rs name]?).map (·.name))=some name)
def fH (rs:List gD)(k:Nat):gD:=(rs[k]?).getD .zero
def rF (rs:List gD)(k:Nat)(n:Int):List gD:=rs.set k { fH rs k with commit:=n }
def wP (s:cK)(k:Nat)(b:av)(ps:List Int):kR × cK :=
 if 40≤s.cs.length then (dY 12,s)
 else if ji (s.cs++[⟨b,ps⟩]) s.cs.length (fH s.rs k).policy≠[] then (⟨8,0,⟨#[]⟩,ji (s.cs++[⟨b,ps⟩]) s.cs.length (fH s.rs k).policy⟩,s)
 else (oJ s.cs.length,⟨s.cs++[⟨b,ps⟩],rF s.rs k s.cs.length,s.acts⟩)
def eY (rs:List gD)(k:Nat)(x:gD):List gD:=rs.take k++x::rs.drop k
def pV (rs:List gD)(k:Nat):List gD:=rs.take k++rs.drop (k+1)
def uP (s:cK)(a:mG):kR × cK :=
 if bJ a.name=false then (dY 1,s)
 else if (iZ (bytes a.text)).2≠0 then (dY (iZ (bytes a.text)).2,s)
 else if qJ s.rs a.name=true then
  (if (fH s.rs (fB s.rs a.name)).commit≠a.n then (dY 10,s) else wP s (fB s.rs a.name) (iZ (bytes a.text)).1 [a.n])
 else if a.n ≠ -1 then (dY 10,s)
 else if 6≤s.rs.length then (dY 12,s)
 else
  let x:=wP ⟨s.cs,eY s.rs (fB s.rs a.name) ⟨a.name,-1,0⟩,s.acts⟩ (fB s.rs a.name) (iZ (bytes a.text)).1 []
  if x.1.code≠0 then (x.1,⟨x.2.cs,pV x.2.rs (fB s.rs a.name),x.2.acts⟩) else x
def isC (s:cK)(n:Int):Bool:=decide (0≤n∧n<s.cs.length)
def lJ (s:cK)(a:mG):Int × cK :=
 if bJ a.name=false then (1,s)
 else if isC s a.n=false then (3,s)
 else if qJ s.rs a.name=true then (4,s)
 else if 6≤s.rs.length then (12,s)
 else (0,⟨s.cs,eY s.rs (fB s.rs a.name) ⟨a.name,a.n,0⟩,s.acts⟩)
def zC (s:cK)(k:Nat)(other:Int):kR × cK :=
 let own:=(fH s.rs k).commit
 let n:=xz s.cs own other
 let r:=fC (if 0≤n then ib s.cs n else []) (ib s.cs own) (ib s.cs other)
 if r.2.2≠0 then (⟨r.2.2,0,⟨#[]⟩,r.2.1⟩,s) else wP s k r.1 [own,other]
def moveF (s:cK)(k:Nat)(to:Int):kR × cK :=
 if isC s to=false then (dY 3,s)
 else if ji s.cs to (fH s.rs k).policy≠[] then (⟨8,0,⟨#[]⟩,ji s.cs to (fH s.rs k).policy⟩,s)
 else (oJ to,⟨s.cs,rF s.rs k to,s.acts⟩)
def uQ (s:cK)(k:Nat)(a:mG):kR × cK :=
 if a.kind=6 then (oJ (fH s.rs k).commit,⟨s.cs,pV s.rs k,s.acts⟩)
 else if a.kind=3 then
  (if a.n<0∨3<a.n then (dY 2,s)
  else if ji s.cs (fH s.rs k).commit a.n≠[] then (⟨8,0,⟨#[]⟩,ji s.cs (fH s.rs k).commit a.n⟩,s)
  else (oJ (fH s.rs k).commit,⟨s.cs,s.rs.set k { fH s.rs k with policy:=a.n },s.acts⟩))
 else if (fH s.rs k).commit≠a.n then (dY 10,s)
 else if a.kind=4 then
  (if qJ s.rs a.other=false then (dY 3,s)
  else if dV (dZ s.cs (fH s.rs k).commit) (fH s.rs (fB s.rs a.other)).commit=true then (oJ (fH s.rs k).commit,s)
  else if dV (dZ s.cs (fH s.rs (fB s.rs a.other)).commit) (fH s.rs k).commit=false then zC s k (fH s.rs (fB s.rs a.other)).commit
  else moveF s k (fH s.rs (fB s.rs a.other)).commit)
 else moveF s k a.m
def Nh (s:cK)(a:mG):kR :=
 if isC s a.n=false then dY 3
 else if (pU (ib s.cs a.n)).2≠0 then dY (pU (ib s.cs a.n)).2
 else ⟨0,(kG s.cs a.n.toNat).length,⟨(pU (ib s.cs a.n)).1.toArray⟩,[]⟩
def CL (s:cK)(a:mG):kR :=
 if isC s a.n=false∨isC s a.m=false then dY 3
 else if (fZ (ib s.cs a.n) a.other (bytes a.text)).2≠0 then dY (fZ (ib s.cs a.n) a.other (bytes a.text)).2
 else
  let r:=fZ (ib s.cs a.m) a.other (bytes a.text)
  if r.2≠0 then dY r.2
  else if (iF (ib s.cs a.m) a.other r.1).2≠0 then dY (iF (ib s.cs a.m) a.other r.1).2
  else ⟨0,r.1.l.length,⟨(iF (ib s.cs a.m) a.other r.1).1.toArray⟩,[]⟩
def zw (s:cK)(a:mG):kR × cK :=
 if a.kind=1 then uP s a
 else if a.kind=2 then (dY (lJ s a).1,(lJ s a).2)
 else if 3≤a.kind∧a.kind≤6 then (if qJ s.rs a.name=false then (dY 3,s) else uQ s (fB s.rs a.name) a)
 else if a.kind=7 then (Nh s a,s)
 else if a.kind=8 then (CL s a,s)
 else (dY 11,s)
def doF (s:cK)(a:mG):kR × cK :=
 if 200≤s.acts then (dY 12,s) else zw ⟨s.cs,s.rs,s.acts+1⟩ a
structure gY (s:cK):Prop where
 books:∀ c∈s.cs,aB c.book=0
 parents:∀ i (h:i<s.cs.length),s.cs[i].parents.length≤2∧∀ p∈s.cs[i].parents,0≤p∧p<i
 refs:∀ r∈s.rs,0≤r.commit∧r.commit<s.cs.length∧0≤r.policy∧r.policy≤3∧bJ r.name=true
 sorted:s.rs.Pairwise fun x y=>ltS x.name y.name
 most:s.cs.length≤40∧s.rs.length≤6∧0≤s.acts∧s.acts≤200
end
end Go.Proofs.YtknnhpkjgnkcdaaGreatDoor
