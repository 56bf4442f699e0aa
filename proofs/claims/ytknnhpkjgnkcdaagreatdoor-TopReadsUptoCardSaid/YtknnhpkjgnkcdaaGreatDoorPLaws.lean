/- Walks and plain laws. -/
import Derived.Test.YtknnhpkjgnkcdaaGreatDoorLaws
import Derived.Test.YtknnhpkjgnkcdaaGreatDoorBase
set_option linter.all false
namespace Go.Proofs.YtknnhpkjgnkcdaaGreatDoor
def qE (s:ByteArray):Prop:=bytes s≠[]∧∀ c∈bytes s,isLet c=true
theorem BN {s:ByteArray}(h:bJ s=true):qE s:=by
 unfold bJ at h;simp only[Bool.and_eq_true,decide_eq_true_eq,List.all_eq_true] at h;refine⟨fun e=>?_,fun c hc=>?_⟩
 ·have:(bytes s).length=s.size:=rfl;rw[e] at this;have:=h.1.2.1;simp at *;omega
 ·have:=h.1.1 c hc;simpa[isLet] using this
theorem Fq {s:ByteArray}(h:bJ s=true):(bytes s).length≤12:=by
 unfold bJ at h;simp only[Bool.and_eq_true,decide_eq_true_eq] at h;exact h.1.2.2
theorem acs {s:ByteArray}(h:bJ s=true):mK rZ s=false:=by
 unfold bJ at h;simp only[Bool.and_eq_true] at h;simpa using h.2
def FQ (f:ay):Prop:=qE f.name∧1≤f.id∧f.id≤30∧1≤f.kind∧f.kind≤5∧1≤f.rule∧f.rule≤3∧(f.kind<4→f.type=⟨#[]⟩)∧(4≤f.kind→qE f.type∧mK rZ f.type=false)
theorem tO {b:av}(hg:aB b=0){t:ax}(ht:t∈b)(he:t.enum=false){f:ay}(hf:f∈t.fields):FQ f:=by
 obtain⟨hn,h1,h30,hk1,hk5,hr1,hr3,hk⟩:=bC (bq hg ht he) hf;refine⟨BN hn,h1,h30,hk1,hk5,hr1,hr3,fun h4=>?_,fun h4=>?_⟩
 ·have h0:(bytes f.type).length=0:=hk.1 h4;exact qb (List.eq_nil_of_length_eq_zero h0)
 ·obtain⟨hs,_⟩:=hk.2 h4;obtain⟨t2,h2⟩:=Option.isSome_iff_exists.1 hs;unfold aM at h2;have hm:=List.mem_of_find?_eq_some h2;have hq:=List.find?_some h2;simp only[decide_eq_true_eq] at hq;obtain⟨_,hT,_⟩:=fJ hg;obtain⟨i,hi,rfl⟩:=List.getElem_of_mem hm;have hn2:=(hT i hi).1;rw[hq] at hn2;exact⟨BN hn2,acs hn2⟩
theorem yS {b:av}(hg:aB b=0):pU b=(b.flatMap bV,0):=by unfold pU;rw[if_neg (by simp[hg])]
theorem Ro {α:Type}(f:α→List UInt8)(m:Nat):∀ (l:List α),(∀ x∈l,(f x).length≤m)→(l.flatMap f).length≤l.length*m
 | [],_=>by simp
 | x::l,h=>by
  rw[List.flatMap_cons,List.length_append,List.length_cons,Nat.add_mul,Nat.one_mul];have:=Ro f m l (fun y hy=>h y (by simp[hy]));have:=h x (by simp);omega
theorem aiC {x:dC}(hn:bJ x.name=true)(h1 : -1099511627776≤x.n)(h2:x.n≤1099511627776):(iw x).length≤31:=by
 have:=Qn h1 h2;have:=Fq hn;unfold iw;simp only[List.length_append,List.length_cons,List.length_nil];omega
theorem aiK {n:Int}(h1:1≤n)(h2:n≤30):(Lib.itoa n).length≤2:=by
 unfold Lib.itoa;rw[if_neg (by omega)];exact uT 1 n.toNat (by omega)
theorem agp {f:ay}(h:FQ f)(hn:bJ f.name=true)(ht:(bytes f.type).length≤12):(fI f).length≤38:=by
 obtain⟨_,h1,h30,hk1,hk5,hr1,hr3,_⟩:=h;have:=aiK h1 h30;have:=Fq hn;have hr:(bytes (lC f)).length≤5:=by
  have:f.rule=1∨f.rule=2∨f.rule=3:=by omega
  unfold lC;rcases this with e | e | e <;> rw[e] <;> decide
 have hk:(bytes (kindName f)).length≤12:=by
  unfold kindName;split
  ·have:f.kind=1∨f.kind=2∨f.kind=3:=by omega
   rcases this with e | e | e <;> rw[e] <;> decide
  ·exact ht
 unfold fI;simp only[List.length_append,List.length_cons,List.length_nil];omega
theorem ahU {b:av}(hg:aB b=0){t:ax}(ht:t∈b):(bV t).length≤400:=by
 obtain⟨_,hT,_⟩:=fJ hg;have hn:(bytes t.name).length≤12:=by
  obtain⟨i,hi,rfl⟩:=List.getElem_of_mem ht;exact Fq (hT i hi).1
 unfold bV;cases he:t.enum with
 | true =>
  obtain⟨hit,_,h6,_⟩:=fE hg ht he;have hs:=Ro iw 31 t.items (fun x hx=>by
   obtain⟨i,h,rfl⟩:=List.getElem_of_mem hx;exact aiC (hit i h).1 (hit i h).2.1 (hit i h).2.2.1)
  have h2:t.items.length*31≤6*31:=Nat.mul_le_mul_right _ h6;have e:(bytes yu).length=4:=rfl;simp only[if_true,List.length_append,List.length_cons,List.length_nil];omega
 | false =>
  obtain⟨h5,_,hg30,hgone,hfs⟩:=bq hg ht he;have hs:=Ro fI 38 t.fields (fun f hf=>by
   have hf':=tO hg ht he hf;have hfp:=bC (bq hg ht he) hf;refine agp hf' hfp.1 ?_
   by_cases h4:f.kind<4
   ·rw[hf'.2.2.2.2.2.2.2.1 h4];decide
   ·have hk:=(hfp.2.2.2.2.2.2.2.2 (by omega)).1;obtain⟨t2,h2⟩:=Option.isSome_iff_exists.1 hk;unfold aM at h2;have hm:=List.mem_of_find?_eq_some h2;have hq:=List.find?_some h2;simp only[decide_eq_true_eq] at hq;obtain⟨i,hi,rfl⟩:=List.getElem_of_mem hm;rw[←hq];exact Fq (hT i hi).1)
  have h2:t.fields.length*38≤5*38:=Nat.mul_le_mul_right _ h5;have hgl:(gU t.gone).length≤98:=by
   unfold gU;split
   ·simp
   ·have hs2:=Ro (fun n=>32::Lib.itoa n) 3 t.gone (fun n hn=>by
     obtain⟨i,h,rfl⟩:=List.getElem_of_mem hn;have:=hgone i h;have:=aiK (n:=t.gone[i]) (by omega) (by omega);simp only[List.length_cons];omega)
    have h3:t.gone.length*3≤30*3:=Nat.mul_le_mul_right _ hg30;simp only[List.length_append,List.length_cons,List.length_nil];omega
  have e:(bytes lH).length=7:=rfl;simp only[Bool.false_eq_true,if_false,List.length_append,List.length_cons,List.length_nil];omega
theorem Ap {b:av}(hg:aB b=0):(b.flatMap bV).length≤1600:=by
 have h1:=Ro bV 400 b (fun t ht=>ahU hg ht);have h2:b.length*400≤4*400:=Nat.mul_le_mul_right _ (fJ hg).1;omega
end Go.Proofs.YtknnhpkjgnkcdaaGreatDoor
