/- What is printed is read as it was (the parts that only that law needs). -/
import Derived.Test.YtknnhpkjgnkcdaaGreatDoorPLaws
set_option linter.all false
namespace Go.Proofs.YtknnhpkjgnkcdaaGreatDoor
theorem Spl.white {c:UInt8}{l:List UInt8}{ws:List ByteArray}(h:nV c=true)(hs:Spl l ws):Spl (c::l) ws:=by
 unfold Spl at *;rw[List.length_cons,jJ,if_pos h];exact hs
theorem afz {c:UInt8}(h:(decide (c.toNat=45)||jK c)=true):nV c=false∧tX c=false∧isLet c=false:=by
 simp only[isLet,nV,tX,jK,Bool.or_eq_true,decide_eq_true_eq,decide_eq_false_iff_not] at *;omega
theorem Spl.num {w l:List UInt8}{ws:List ByteArray}{c:UInt8}(hc:(decide (c.toNat=45)||jK c)=true)(ha:∀ c∈w,jK c=true)(hl:Bw jK l)(hs:Spl l ws):Spl (c::w++l) (⟨(c::w).toArray⟩::ws):=by
 obtain⟨h1,h2,h3⟩:=afz hc;obtain⟨e1,e2⟩:=LP (w:=w) (l:=l) ha hl;unfold Spl at *;rw[List.cons_append,List.length_cons,jJ,if_neg (by simp[h1]),if_neg (by simp[h2]),if_neg (by simp[h3]),if_pos hc,e1,e2,pJ _ l.length l (by simp) (Nat.le_refl _),hs];rfl
theorem uM:∀ (u:Nat),(∀ c∈Lib.decDigits u,jK c=true)∧Lib.decDigits u≠[]:=by
 intro u
 induction u using Nat.strongRecOn with
 | ind u ih =>
  rw[Lib.decDigits];split
  ·rename_i h
   refine⟨fun c hc=>?_,by simp⟩;simp only[List.mem_singleton] at hc;subst hc;simp only[jK,decide_eq_true_eq,UInt8.toNat_ofNat'];omega
  ·rename_i h
   refine⟨fun c hc=>?_,by simp⟩;rcases List.mem_append.1 hc with hc | hc
   ·exact(ih (u / 10) (by omega)).1 c hc
   ·simp only[List.mem_singleton] at hc;subst hc;simp only[jK,decide_eq_true_eq,UInt8.toNat_ofNat'];omega
theorem Ld (n:Int):∃ c w,Lib.itoa n=c::w∧(decide (c.toNat=45)||jK c)=true∧∀ x∈w,jK x=true:=by
 unfold Lib.itoa;split
 ·exact⟨45,_,rfl,rfl,fun x hx=>(uM _).1 x hx⟩
 ·obtain⟨ha,hn⟩:=uM n.toNat;cases h:Lib.decDigits n.toNat with
  | nil=>exact absurd h hn
  | cons c w =>
   rw[h] at ha;exact⟨c,w,rfl,by rw[ha c (by simp),Bool.or_true],fun x hx=>ha x (by simp[hx])⟩
theorem Py (acc:Nat):∀ (l m:List UInt8),Lib.decFrom acc (l++m)=(Lib.decFrom acc l).bind (Lib.decFrom · m):=by
 intro l
 induction l generalizing acc with
 | nil=>intro m;rfl
 | cons c l ih =>
  intro m;simp only[List.cons_append,Lib.decFrom];cases Lib.digitVal c with
  | none=>rfl
  | some d=>exact ih _ m
theorem MJ (d:Nat)(h:d<10):Lib.digitVal (UInt8.ofNat (48+d))=some d:=by
 unfold Lib.digitVal;have e:(UInt8.ofNat (48+d)).toNat=48+d:=by simp only[UInt8.toNat_ofNat'];omega
 rw[e,if_pos (by omega)]
 congr 1;omega
theorem Eu (u:Nat):Lib.decFrom 0 (Lib.decDigits u)=some u:=by
 induction u using Nat.strongRecOn with
 | ind u ih =>
  rw[Lib.decDigits];split
  ·rename_i h
   simp only[Lib.decFrom,MJ u h];simp
  ·rename_i h
   rw[Py,ih (u / 10) (by omega)];simp only[Option.bind_some,Lib.decFrom,MJ (u % 10) (Nat.mod_lt _ (by decide))];simp only[Option.some.injEq];omega
theorem Lb (n:Int):Lib.atoi (Lib.itoa n)=some n:=by
 unfold Lib.itoa;split
 ·rename_i h
  obtain⟨_,hn⟩:=uM n.natAbs;have hd:=Eu n.natAbs;simp only[Lib.atoi,Lib.decNat];cases hq:Lib.decDigits n.natAbs with
  | nil=>exact absurd hq hn
  | cons c w =>
   rw[hq] at hd;simp[hd];omega
 ·rename_i h
  obtain⟨ha,hn⟩:=uM n.toNat;have hd:=Eu n.toNat;cases hq:Lib.decDigits n.toNat with
  | nil=>exact absurd hq hn
  | cons c w =>
   rw[hq] at hd ha;have hc:=ha c (by simp);simp only[jK,decide_eq_true_eq] at hc;have h45:c.toNat≠45:=by omega
   have h43:c.toNat≠43:=by omega
   have b45:(c==45)=false:=by
    cases hb:c==45 with
    | false=>rfl
    | true=>exact absurd (congrArg UInt8.toNat (eq_of_beq hb)) h45
   have b43:(c==43)=false:=by
    cases hb:c==43 with
    | false=>rfl
    | true=>exact absurd (congrArg UInt8.toNat (eq_of_beq hb)) h43
   simp only[Lib.atoi,Lib.decNat,hd,b45,b43,Bool.false_eq_true,if_false,List.isEmpty_cons,Option.map_some,Option.some.injEq];omega
def wM (n:Int):ByteArray:=⟨(Lib.itoa n).toArray⟩
theorem aiU {n:Int}(h1 : -1099511627776≤n)(h2:n≤1099511627776):Rq (wM n)=some n:=by
 have hl:=Qn h1 h2;have hb:bytes (wM n)=Lib.itoa n:=rfl;unfold Rq;rw[hb,Lib.atoiAll_short _ (by omega),Lb];show (if _ then some n else none)=some n;rw[if_pos ⟨rfl,h1,h2⟩]
theorem ajH (s:ByteArray):(⟨(bytes s).toArray⟩:ByteArray)=s:=by
 obtain⟨⟨l⟩⟩:=s;rfl
theorem ahZ {s:ByteArray}(h:qE s):isW s=true:=by
 obtain⟨hn,ha⟩:=h;unfold isW;cases hb:bytes s with
 | nil=>exact absurd hb hn
 | cons c l=>exact ha c (by rw[hb];simp)
theorem adQ (n:Int){c:UInt8}{l:List UInt8}(hc:(decide (c.toNat=45)||jK c)=false):wM n≠⟨(c::l).toArray⟩:=by
 intro h;obtain⟨d,w,e,hd,_⟩:=Ld n;have h2:Lib.itoa n=c::l:=congrArg bytes h;rw[e] at h2;injection h2 with h3 h4
 rw[h3,hc] at hd;cases hd
theorem jE {p:UInt8→Bool}{c:UInt8}{l:List UInt8}(h:p c=false):Bw p (c::l):=fun x hx=>by
 simp only[List.head?_cons,Option.some.injEq] at hx;rw[←hx];exact h
theorem Spl.Kv {s:ByteArray}{l:List UInt8}{ws:List ByteArray}(h:qE s)(hl:Bw isLet l)(hs:Spl l ws):Spl (bytes s++l) (s::ws):=by
 have:=Spl.word h.1 h.2 hl hs
 rwa [ajH] at this
theorem Spl.alO {n:Int}{l:List UInt8}{ws:List ByteArray}(hl:Bw jK l)(hs:Spl l ws):Spl (Lib.itoa n++l) (wM n::ws):=by
 obtain⟨c,w,e,hc,ha⟩:=Ld n;unfold wM;rw[e];exact Spl.num hc ha hl hs
def pY (x:dC):List ByteArray:=[wM x.n,x.name,ku]
def jS (f:ay):List ByteArray:=[wM f.id,lC f,kindName f,f.name,ku]
def rz (l:List Int):List ByteArray:=if l.length=0 then [] else CE::(l.map wM++[ku])
def oK (t:ax):List ByteArray :=
 if t.enum then [yu,t.name,mP]++t.items.flatMap pY++[il]
 else [lH,t.name,mP]++t.fields.flatMap jS++rz t.gone++[il]
theorem aiS {x:dC}(h:qE x.name){l:List UInt8}{ws:List ByteArray}(hs:Spl l ws):Spl (iw x++l) (pY x++ws):=by
 have h1:Spl ([59,10]++l) (ku::ws):=Spl.sign rfl rfl (Spl.white rfl hs);have h2:=Spl.Kv h (jE rfl) h1;have h3:Spl (Lib.itoa x.n++(32::(bytes x.name++([59,10]++l)))) (wM x.n::x.name::ku::ws):=Spl.alO (jE rfl) (Spl.white rfl h2);have h4:=Spl.white (c:=32) rfl (Spl.white (c:=32) rfl h3);unfold iw pY;simpa[List.append_assoc] using h4
theorem afy {f:ay}(hr:qE (lC f))(hk:qE (kindName f))(h:qE f.name){l:List UInt8}{ws:List ByteArray}(hs:Spl l ws):Spl (fI f++l) (jS f++ws):=by
 have h1:Spl ([59,10]++l) (ku::ws):=Spl.sign rfl rfl (Spl.white rfl hs);have h2:=Spl.white (c:=32) rfl (Spl.Kv h (jE rfl) h1);have h3:=Spl.white (c:=32) rfl (Spl.Kv hk (jE rfl) h2);have h4:=Spl.white (c:=32) rfl (Spl.Kv hr (jE rfl) h3);have h5:=Spl.white (c:=32) rfl (Spl.white (c:=32) rfl (Spl.alO (n:=f.id) (jE rfl) h4));unfold fI jS;simpa[List.append_assoc] using h5
theorem Jv {α:Type}{p:α→List UInt8}{t:α→List ByteArray}:∀ (xs:List α) (_:∀ x∈xs,∀ l ws,Spl l ws→Spl (p x++l) (t x++ws)) {l:List UInt8} {ws:List ByteArray} (_:Spl l ws),Spl (xs.flatMap p++l) (xs.flatMap t++ws)
 | [],_,_,_,hs=>hs
 | x::xs,h,l,ws,hs=>by
  rw[List.flatMap_cons,List.flatMap_cons,List.append_assoc,List.append_assoc];exact h x (by simp) _ _ (Jv xs (fun y hy=>h y (by simp[hy])) hs)
theorem Zv:∀ (gs:List Int) {l:List UInt8} {ws:List ByteArray} (_:Bw jK l) (_:Spl l ws),Bw jK (gs.flatMap (fun n=>32::Lib.itoa n)++l)∧Spl (gs.flatMap (fun n=>32::Lib.itoa n)++l) (gs.map wM++ws)
 | [],_,_,hn,hs=>⟨hn,hs⟩
 | g::gs,l,ws,hn,hs=>by
  obtain⟨a,b⟩:=Zv gs hn hs;rw[List.flatMap_cons,List.map_cons,List.append_assoc,List.cons_append,List.cons_append];exact⟨jE rfl,Spl.white rfl (Spl.alO a b)⟩
theorem agr:qE CE:=⟨by decide,by decide⟩
theorem WJ:qE lH:=⟨by decide,by decide⟩
theorem agB:qE yu:=⟨by decide,by decide⟩
theorem aiD (gs:List Int){l:List UInt8}{ws:List ByteArray}(hs:Spl l ws):Spl (gU gs++l) (rz gs++ws):=by
 unfold gU rz
 by_cases h:gs.length=0
 ·rw[if_pos h,if_pos h];exact hs
 ·rw[if_neg h,if_neg h];have h1:Spl ([59,10]++l) (ku::ws):=Spl.sign rfl rfl (Spl.white rfl hs);obtain⟨_,h2⟩:=Zv gs (jE (by decide)) h1;have hh:Bw isLet (gs.flatMap (fun n=>32::Lib.itoa n)++([59,10]++l)):=by
   cases gs with
   | nil=>exact absurd rfl h
   | cons g gs=>rw[List.flatMap_cons,List.append_assoc,List.cons_append];exact jE rfl
  have h3:=Spl.white (c:=32) rfl (Spl.white (c:=32) rfl (Spl.Kv agr hh h2));have e:bytes CE=[103,111,110,101]:=rfl;rw[e] at h3;simpa[List.append_assoc] using h3
def LD (t:ax):Prop:=qE t.name∧(∀ x∈t.items,qE x.name)∧∀ f∈t.fields,qE (lC f)∧qE (kindName f)∧qE f.name
theorem ajg {t:ax}(h:LD t){l:List UInt8}{ws:List ByteArray}(hs:Spl l ws):Spl (bV t++l) (oK t++ws):=by
 obtain⟨hn,hi,hf⟩:=h;have h1:Spl ([125,10]++l) (il::ws):=Spl.sign rfl rfl (Spl.white rfl hs);unfold bV oK;cases t.enum with
 | true =>
  have h2:=Jv t.items (fun x hx l ws h=>aiS (hi x hx) h) h1;have h3:Spl ([32,123,10]++(t.items.flatMap iw++([125,10]++l))) (mP::(t.items.flatMap pY++il::ws)):=Spl.white rfl (Spl.sign rfl rfl (Spl.white rfl h2));have h4:=Spl.Kv agB (jE rfl) (Spl.white (c:=32) rfl (Spl.Kv hn (jE rfl) h3));simpa[List.append_assoc] using h4
 | false =>
  have h2:=Jv t.fields (fun f hx l ws h=>afy (hf f hx).1 (hf f hx).2.1 (hf f hx).2.2 h) (aiD t.gone h1);have h3:Spl ([32,123,10]++(t.fields.flatMap fI++(gU t.gone++([125,10]++l)))) (mP::(t.fields.flatMap jS++(rz t.gone++il::ws))):=Spl.white rfl (Spl.sign rfl rfl (Spl.white rfl h2));have h4:=Spl.Kv WJ (jE rfl) (Spl.white (c:=32) rfl (Spl.Kv hn (jE rfl) h3));simpa[List.append_assoc] using h4
theorem aif (b:av)(h:∀ t∈b,LD t):Spl (b.flatMap bV) (b.flatMap oK):=by
 have:=Jv b (fun t ht l ws hs=>ajg (h t ht) hs) Spl.nil;simpa using this
theorem Jc {s:ByteArray}(h:qE s)(l:List ByteArray):(Rd.mk (s::l) false).word=(s,⟨l,false⟩):=by
 show (s,if isW s then _ else _)=_;rw[ahZ h];rfl
theorem KA {n:Int}(h1 : -1099511627776≤n)(h2:n≤1099511627776)(l:List ByteArray):(Rd.mk (wM n::l) false).number=(n,⟨l,false⟩):=by
 show (match Rq (wM n) with | some n=>_ | none=>_)=_;rw[aiU h1 h2];rfl
theorem Ch (s:ByteArray)(l:List ByteArray):(Rd.mk (s::l) false).take s=⟨l,false⟩:=by
 show (if s=s then _ else _)=_;rw[if_pos rfl];rfl
theorem Dv {s x:ByteArray}(h:x≠s)(l:List ByteArray)(bad:Bool):(Rd.mk (x::l) bad).at_ s=false:=by
 show decide (x=s)=false;simpa using h
theorem aeO (s:ByteArray)(l:List ByteArray)(bad:Bool):(Rd.mk (s::l) bad).at_ s=true:=by
 show decide (s=s)=true;simp
theorem abq (n:Int):wM n≠il:=adQ n (c:=125) (l:=[]) rfl
theorem ald (n:Int):wM n≠ku:=adQ n (c:=59) (l:=[]) rfl
theorem ajB (n:Int):wM n≠CE:=adQ n (c:=103) (l:=[111,110,101]) rfl
theorem Rs:∀ (xs:List dC) (k:Nat) (acc:List dC) (rest:List ByteArray),xs.length+1≤k→(∀ x∈xs,qE x.name ∧ -1099511627776≤x.n∧x.n≤1099511627776) →
  nP k ⟨xs.flatMap pY++il::rest,false⟩ acc=(acc++xs,⟨il::rest,false⟩)
 | [],k+1,acc,rest,_,_=>by
  rw[nP,if_neg]
  ·simp
  ·rintro⟨_,h⟩;rw[show (Rd.mk ([].flatMap pY++il::rest) false).at_ il=true from aeO _ _ _] at h;cases h
 | x::xs,k+1,acc,rest,hk,h=>by
  obtain⟨hw,h1,h2⟩:=h x (by simp);have hk':xs.length+1≤k:=by simpa using hk
  have e:(x::xs).flatMap pY++il::rest=wM x.n::x.name::ku::(xs.flatMap pY++il::rest):=by
   rw[List.flatMap_cons];rfl
  rw[e,nP,if_pos ⟨rfl,Dv (abq _) _ _⟩,KA h1 h2,Jc hw,Ch,Rs xs k _ rest hk' (fun y hy=>h y (by simp[hy]))];simp
theorem Wh:∀ (gs:List Int) (k:Nat) (acc:List Int) (rest:List ByteArray),gs.length+1≤k→(∀ g∈gs,-1099511627776≤g∧g≤1099511627776) →
  mQ k ⟨gs.map wM++ku::rest,false⟩ acc=(acc++gs,⟨ku::rest,false⟩)
 | [],k+1,acc,rest,_,_=>by
  rw[mQ,if_neg]
  ·simp
  ·rintro⟨_,h⟩;rw[show (Rd.mk ([].map wM++ku::rest) false).at_ ku=true from aeO _ _ _] at h;cases h
 | g::gs,k+1,acc,rest,hk,h=>by
  obtain⟨h1,h2⟩:=h g (by simp);have hk':gs.length+1≤k:=by simpa using hk
  rw[List.map_cons,List.cons_append,mQ,if_pos ⟨rfl,Dv (ald _) _ _⟩,KA h1 h2,Wh gs k _ rest hk' (fun y hy=>h y (by simp[hy]))];simp
def qp (f:ay):ay:={ f with kind:=if 4≤f.kind then 0 else f.kind }
theorem PD {f:ay}(h:FQ f):qE (lC f)∧De DD (lC f)=f.rule:=by
 obtain⟨_,_,_,_,_,h1,h3,_⟩:=h;have:f.rule=1∨f.rule=2∨f.rule=3:=by omega
 unfold lC;rcases this with e | e | e <;> rw[e]
 ·exact⟨⟨by decide,by decide⟩,by decide⟩
 ·exact⟨⟨by decide,by decide⟩,by decide⟩
 ·exact⟨⟨by decide,by decide⟩,by decide⟩
theorem acZ {s:ByteArray}(h:qE s)(hn:mK rZ s=false):De vX s = -1:=by
 have hx:∀ y∈rZ,y≠s:=fun y hy e=>by
  have:mK rZ s=true:=List.any_eq_true.2 ⟨y,hy,by simpa using e⟩;rw[hn] at this;cases this
 refine Vy fun j hj=>?_
 have hj4:j<4:=hj;have:j=0∨j=1∨j=2∨j=3:=by omega
 rcases this with rfl | rfl | rfl | rfl
 ·intro e;exact h.1 (by rw[←e];rfl)
 ·exact hx ajt (by simp[rZ,ajt])
 ·exact hx amh (by simp[rZ,amh])
 ·exact hx aiw (by simp[rZ,aiw])
theorem Rv {f:ay}(h:FQ f):qE (kindName f)∧(if 0<De vX (kindName f) then (⟨#[]⟩:ByteArray) else kindName f)=f.type∧(if 0<De vX (kindName f) then De vX (kindName f) else 0)=(qp f).kind:=by
 obtain⟨_,_,_,h1,h5,_,_,hs,hm⟩:=h;unfold kindName qp
 by_cases h4:f.kind<4
 ·rw[if_pos h4,hs h4];have:f.kind=1∨f.kind=2∨f.kind=3:=by omega
  dsimp only;rw[if_neg (show ¬ 4≤f.kind by omega)];rcases this with e | e | e <;> rw[e]
  ·exact⟨⟨by decide,by decide⟩,by decide,by decide⟩
  ·exact⟨⟨by decide,by decide⟩,by decide,by decide⟩
  ·exact⟨⟨by decide,by decide⟩,by decide,by decide⟩
 ·obtain⟨hw,hn⟩:=hm (by omega);rw[if_neg h4,acZ hw hn];dsimp only;rw[if_pos (show 4≤f.kind by omega)];exact⟨hw,by rw[if_neg (by decide)],by decide⟩
theorem abN {f:ay}(h:FQ f)(rest:List ByteArray):kJ ⟨jS f++rest,false⟩=(qp f,⟨ku::rest,false⟩):=by
 obtain⟨hr,er⟩:=PD h;obtain⟨hk,et,ek⟩:=Rv h;obtain⟨hw,h1,h30,_,_,hr1,hr3,_⟩:=h;have e:jS f++rest=wM f.id::lC f::kindName f::f.name::ku::rest:=rfl;unfold kJ;rw[e,KA (by omega) (by omega)];dsimp only;have e2:(Rd.mk (lC f::kindName f::f.name::ku::rest) false).next=(lC f,⟨kindName f::f.name::ku::rest,false⟩):=rfl;rw[e2];dsimp only;rw[Jc hk];dsimp only;rw[Jc hw];dsimp only;rw[et,ek,er];have:decide (f.rule<1)=false:=by simp;omega
 rw[this];rfl
theorem Qe:∀ (fs:List ay) (k:Nat) (af:List ay) (ag:List Int) (rest:List ByteArray),fs.length≤k→(∀ f∈fs,FQ f) →
  jH k ⟨fs.flatMap jS++rest,false⟩ af ag=jH (k-fs.length) ⟨rest,false⟩ (af++fs.map qp) ag
 | [],k,af,ag,rest,_,_=>by simp
 | f::fs,k+1,af,ag,rest,hk,h=>by
  have hk':fs.length≤k:=by simpa using hk
  have e:(f::fs).flatMap jS++rest=jS f++(fs.flatMap jS++rest):=by rw[List.flatMap_cons,List.append_assoc]
  have e2:jS f++(fs.flatMap jS++rest)=wM f.id::(lC f::kindName f::f.name::ku::(fs.flatMap jS++rest)):=rfl;rw[e,jH,if_pos ⟨rfl,by rw[e2];exact Dv (abq _) _ _⟩,if_neg (by rw[e2,Dv (ajB _)];simp),abN (h f (by simp)),Ch,Qe fs k _ _ rest hk' (fun y hy=>h y (by simp[hy]))];simp[Nat.add_sub_add_right]
theorem aaO (gs:List Int)(k:Nat)(af:List ay)(rest:List ByteArray)(hk:2≤k)(h:∀ g∈gs,-1099511627776≤g∧g≤1099511627776) :
  jH k ⟨rz gs++il::rest,false⟩ af []=(af,gs,⟨il::rest,false⟩):=by
 obtain⟨k,rfl⟩:∃ j,k=j+2:=⟨k-2,by omega⟩;have hend:∀ (j:Nat) (ag:List Int),jH (j+1) ⟨il::rest,false⟩ af ag=(af,ag,⟨il::rest,false⟩):=fun j ag=>by
  rw[jH,if_neg];rintro⟨_,h⟩;rw[aeO] at h;cases h
 unfold rz
 by_cases h0:gs.length=0
 ·obtain rfl:gs=[]:=List.eq_nil_of_length_eq_zero h0;rw[if_pos h0,List.nil_append];exact hend _ _
 ·rw[if_neg h0];have e:CE::(gs.map wM++[ku])++il::rest=CE::(gs.map wM++ku::(il::rest)):=by simp
  rw[e,jH,if_pos ⟨rfl,Dv (by decide) _ _⟩,if_pos (aeO _ _ _)];have e2:(Rd.mk (CE::(gs.map wM++ku::(il::rest))) false).next.2=⟨gs.map wM++ku::(il::rest),false⟩:=rfl;rw[e2,Wh gs _ [] _ (by simp;omega) h];dsimp only;rw[Ch,List.nil_append];exact hend _ _
theorem wQ {α:Type}{lt:α→α→Bool}:∀ (l:List α),(∀ i (h:i+1<l.length),lt l[i+1] l[i]=false)→bL lt l=l:=by
 intro l h;have key:∀ (m:List α) (acc:List α),(∀ i (h:i+1<(acc.reverse++m).length),lt (acc.reverse++m)[i+1] (acc.reverse++m)[i]=false)→m.foldl (fun a x=>oo lt x a) acc=m.reverse++acc:=by
  intro m
  induction m with
  | nil=>intro acc _;rfl
  | cons x m ih =>
   intro acc ha;have hx:oo lt x acc=x::acc:=by
    cases acc with
    | nil=>rfl
    | cons y acc =>
     have hl:acc.length+1<((y::acc).reverse++x::m).length:=by simp
     have:=ha acc.length hl;have e1:((y::acc).reverse++x::m)[acc.length+1]=x:=by
      rw[List.getElem_append_right (by simp)];simp
     have e0:((y::acc).reverse++x::m)[acc.length]=y:=by
      rw[List.getElem_append_left (by simp)];simp
     rw[e1,e0] at this;rw[oo,this];rfl
   rw[List.foldl_cons,hx,ih (x::acc) (by simpa using ha)];simp
 have:=key l [] (by simpa using h);unfold bL;rw[this];simp
theorem Sc {b:av}(hg:aB b=0):∀ t∈b,LD t:=by
 intro t ht;obtain⟨_,hT,_⟩:=fJ hg;obtain⟨i,hi,rfl⟩:=List.getElem_of_mem ht;obtain⟨hn,_,_⟩:=hT i hi;refine⟨BN hn,fun x hx=>?_,fun f hf=>?_⟩
 ·cases he:b[i].enum with
  | true =>
   obtain⟨k,hk,rfl⟩:=List.getElem_of_mem hx;exact BN ((fE hg ht he).1 k hk).1
  | false =>
   have:=(bq hg ht he).2.1;rw[List.eq_nil_of_length_eq_zero this] at hx;cases hx
 ·cases he:b[i].enum with
  | true =>
   have:=(fE hg ht he).2.2.2.1;rw[List.eq_nil_of_length_eq_zero this] at hf;cases hf
  | false =>
   have hf':=tO hg ht he hf;exact⟨(PD hf').1,(Rv hf').1,hf'.1⟩
def nE (t:ax):ax:={ t with fields:=t.fields.map qp }
theorem ahh {b:av}(hg:aB b=0){t:ax}(ht:t∈b)(rest:List ByteArray)(k:Nat)(acc:List ax) :
  jh (k+1) ⟨oK t++rest,false⟩ acc=jh k ⟨rest,false⟩ (acc++[nE t]):=by
 obtain⟨hn,hi,hf⟩:=Sc hg t ht;cases he:t.enum with
 | true =>
  obtain⟨hit,_,_,hfl,hgl⟩:=fE hg ht he;have hfn:t.fields=[]:=List.eq_nil_of_length_eq_zero hfl;have hgn:t.gone=[]:=List.eq_nil_of_length_eq_zero hgl;have e:oK t++rest=yu::t.name::mP::(t.items.flatMap pY++il::rest):=by unfold oK;rw[he];simp
  rw[e,jh,if_pos ⟨by simp,rfl⟩];have e2:(Rd.mk (yu::t.name::mP::(t.items.flatMap pY++il::rest)) false).next=(yu,⟨t.name::mP::(t.items.flatMap pY++il::rest),false⟩):=rfl;rw[e2];dsimp only;have e3:vS ⟨t.name::mP::(t.items.flatMap pY++il::rest),false⟩=(nE t,⟨rest,false⟩):=by
   unfold vS;rw[Jc hn];dsimp only;rw[Ch,Rs t.items _ [] rest (by
    have:t.items.length≤(t.items.flatMap pY).length:=by
     rw[List.length_flatMap];clear hit hi e e2
     induction t.items with
     | nil=>simp
     | cons x xs ih=>simp only[List.map_cons,List.sum_cons,List.length_cons];have:(pY x).length=3:=rfl;omega
    simp only[List.length_append,List.length_cons];omega) (fun x hx=>by
     obtain⟨i,h,rfl⟩:=List.getElem_of_mem hx;exact⟨hi _ hx,(hit i h).2.1,(hit i h).2.2.1⟩)]
   dsimp only;rw[Ch,List.nil_append,wQ t.items (fun i h=>by
    have:=(hit (i+1) h).2.2.2.1 (by omega);simp only[Nat.add_sub_cancel] at this;unfold nO;simp;omega)]
   unfold nE;obtain⟨a1,a2,a3,a4,a5⟩:=t;simp only at he hfn hgn;subst he hfn hgn;rfl
  rw[e3,if_neg (by decide),if_pos rfl]
 | false =>
  have hm:=bq hg ht he;obtain⟨h5,hil,hg30,hgone,hfs⟩:=hm;have hin:t.items=[]:=List.eq_nil_of_length_eq_zero hil;have e:oK t++rest=lH::t.name::mP::(t.fields.flatMap jS++(rz t.gone++il::rest)):=by unfold oK;rw[he];simp
  rw[e,jh,if_pos ⟨by simp,rfl⟩];have e2:(Rd.mk (lH::t.name::mP::(t.fields.flatMap jS++(rz t.gone++il::rest))) false).next=(lH,⟨t.name::mP::(t.fields.flatMap jS++(rz t.gone++il::rest)),false⟩):=rfl;rw[e2];dsimp only;have e3:mZ ⟨t.name::mP::(t.fields.flatMap jS++(rz t.gone++il::rest)),false⟩=(nE t,⟨rest,false⟩):=by
   have hlen:t.fields.length≤(t.fields.flatMap jS).length:=by
    rw[List.length_flatMap];clear e e2 hfs h5 hf hgone
    induction t.fields with
    | nil=>simp
    | cons x xs ih=>simp only[List.map_cons,List.sum_cons,List.length_cons];have:(jS x).length=5:=rfl;omega
   unfold mZ;rw[Jc hn];dsimp only;rw[Ch,Qe t.fields _ [] [] _ (by simp only[List.length_append];omega) (fun f hf=>tO hg ht he hf),aaO t.gone _ _ rest (by simp only[List.length_append,List.length_cons];omega) (fun g hgm=>by
    obtain⟨i,h,rfl⟩:=List.getElem_of_mem hgm;have:=hgone i h;omega)]
   dsimp only;rw[Ch,List.nil_append,wQ (t.fields.map qp) (fun i h=>by
     have h':i+1<t.fields.length:=by simpa using h
     have:=(hfs (i+1) h').2.1 (by omega);simp only[Nat.add_sub_cancel] at this;unfold kK;simp only[List.getElem_map,qp];simp;omega),
    wQ t.gone (fun i h=>by
     have:=(hgone (i+1) h).2.2.2 (by omega);simp only[Nat.add_sub_cancel] at this;unfold ltInt;simp;omega)]
   unfold nE;obtain⟨a1,a2,a3,a4,a5⟩:=t;simp only at he hin;subst he hin;rfl
  rw[e3,if_pos rfl]
theorem QY {b:av}(hg:aB b=0):∀ (l:List ax) (k:Nat) (acc:List ax),(∀ t∈l,t∈b)→l.length≤k→jh (k+1) ⟨l.flatMap oK,false⟩ acc=(acc++l.map nE,⟨[],false⟩)
 | [],k,acc,_,_=>by
  rw[jh,if_neg (by simp)];simp
 | t::l,k+1,acc,h,hk=>by
  rw[List.flatMap_cons,ahh hg (h t (by simp)),QY hg l k _ (fun x hx=>h x (by simp[hx])) (by simpa using hk)];simp
theorem Uy:∀ (b:av) (n:ByteArray),aM (b.map nE) n=(aM b n).map nE
 | [],_=>rfl
 | t::b,n=>by
  unfold aM at *;have ih:=Uy b n;unfold aM at ih;rw[List.map_cons,List.find?_cons,List.find?_cons,ih];have e:(nE t).name=t.name:=rfl;rw[e];cases decide (t.name=n) <;> rfl
theorem akY {b:av}(hg:aB b=0):rJ (b.map nE)=b:=by
 unfold rJ;rw[List.map_map];refine(List.map_congr_left fun t ht=>?_).trans (List.map_id' b);obtain⟨tn,te,tf,tg,ti⟩:=t;show ax.mk tn te ((tf.map qp).map (Aj (b.map nE))) tg ti=⟨tn,te,tf,tg,ti⟩;have:(tf.map qp).map (Aj (b.map nE))=tf:=by
  rw[List.map_map];refine(List.map_congr_left fun f hf=>?_).trans (List.map_id' tf);cases he:te with
  | true =>
   subst he;have:=(fE hg ht rfl).2.2.2.1;have hl:tf.length=0:=this;rw[List.eq_nil_of_length_eq_zero hl] at hf;cases hf
  | false =>
   subst he;obtain⟨_,h1,h30,hk1,hk5,hr1,hr3,hk⟩:=bC (bq hg ht rfl) hf;obtain⟨fid,fn,fty,fk,fr⟩:=f;simp only at hk1 hk5;show Aj (b.map nE) (qp ⟨fid,fn,fty,fk,fr⟩)=⟨fid,fn,fty,fk,fr⟩;unfold Aj qp;dsimp only
   by_cases h4:4≤fk
   ·obtain⟨hs,he2⟩:=hk.2 h4;simp only at hs he2;rw[if_pos h4,if_pos rfl,Uy];obtain⟨t2,h2⟩:=Option.isSome_iff_exists.1 hs;rw[h2] at he2 ⊢;simp only[Option.map_some,Option.isSome_some,Option.getD_some,Bool.true_and] at he2 ⊢;have e:(nE t2).enum=t2.enum:=rfl;rw[e,he2]
    by_cases h5:fk=4
    ·subst h5;simp
    ·have:fk=5:=by omega
     subst this;simp
   ·rw[if_neg h4,if_neg (by omega)]
 rw[this]
theorem aau:∀ (b:av),b.length≤(b.flatMap oK).length
 | []=>by simp
 | t::b=>by
  have h:=aau b;have h4:4≤(oK t).length:=by unfold oK;split <;> simp <;> omega
  rw[List.flatMap_cons,List.length_append,List.length_cons];omega
theorem alu:∀ (x y:List UInt8),Op.bytesLess x y=decide (x<y)
 | [],[]=>by simp[Op.bytesLess]
 | _::_,[]=>by simp[Op.bytesLess]
 | [],_::_=>by simp[Op.bytesLess]
 | a::x,b::y=>by
  rw[Op.bytesLess,alu x y];simp only[List.cons_lt_cons_iff]
  by_cases h1:a<b <;> by_cases h2:a=b <;> by_cases h3:x<y <;> simp[h1,h2,h3]
theorem afO {a b:ByteArray}(h:ltS a b):¬ ltS b a:=by
 unfold ltS at *;rw[alu,decide_eq_true_iff] at *;exact fun h2=>List.lt_irrefl _ (List.lt_trans h h2)
theorem MH {b:av}(hg:aB b=0):iZ (b.flatMap bV)=(b,0):=by
 have hl:=Ap hg;have hs:jJ (b.flatMap bV).length (b.flatMap bV)=some (b.flatMap oK):=aif b (Sc hg);obtain⟨_,hT,_⟩:=fJ hg;have hbl:b.length≤(b.flatMap oK).length+1:=by
  have:=aau b;omega
 unfold iZ;rw[if_neg (by omega),hs];dsimp only;have ht:=QY hg b ((b.flatMap oK).length+1) [] (fun _ h=>h) hbl;rw[ht,List.nil_append];have hsort:bL kH (b.map nE)=b.map nE:=wQ _ (fun i h=>by
  have h':i+1<b.length:=by simpa using h
  have h1:=(hT (i+1) h').2.1 (by omega);simp only[Nat.add_sub_cancel] at h1;simp only[List.getElem_map];unfold kH;have e:∀ t:ax,(nE t).name=t.name:=fun _=>rfl
  rw[e,e];simpa using afO h1)
 dsimp only;rw[hsort,akY hg,if_neg (by simp),if_neg (by simp[hg])]
end Go.Proofs.YtknnhpkjgnkcdaaGreatDoor
