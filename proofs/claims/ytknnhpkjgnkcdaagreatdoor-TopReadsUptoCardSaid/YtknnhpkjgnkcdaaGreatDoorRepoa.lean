/- Walks and plain laws. -/
import Derived.Test.YtknnhpkjgnkcdaaGreatDoorCompat
import Derived.Test.YtknnhpkjgnkcdaaGreatDoorScmp
import Derived.Shelf.Spec.SlicesInsert
import Derived.Lib.AppendZerosOnto
set_option linter.all false
set_option maxRecDepth 100000
set_option maxHeartbeats 8000000
namespace Go.Proofs.YtknnhpkjgnkcdaaGreatDoor
section
open Go.Proofs.Tryz
open Go.RowKit
def dw:Rel fD:=fun S w cs c=>∃ vb vp,cs=[vb,vp]∧RSl 5 96 ah S w [vb] c.book∧RSl 1 8 aQ S w [vp] c.parents
theorem dw.fair:Fair dw:=⟨by
  rintro S w w' cs t ⟨vb,vp,h,a,b⟩ hk;exact⟨vb,vp,h,(RSl.fair ah.fair).keep a hk,(RSl.fair aQ.fair).keep b hk⟩,by
  rintro S T w cs t ⟨vb,vp,h,a,b⟩ hk;exact⟨vb,vp,h,(RSl.fair ah.fair).mono a hk,(RSl.fair aQ.fair).mono b hk⟩⟩
theorem dw.parts {S:Nat→Prop}{w:World}{cs:List Value}{c:fD}(h:dw S w cs c) :
  ∃ A1 c1 A2 c2,cs=[.slice A1 c.book.length c1,.slice A2 c.parents.length c2]∧RSl 5 96 ah S w [.slice A1 c.book.length c1] c.book∧RSl 1 8 aQ S w [.slice A2 c.parents.length c2] c.parents:=by
 obtain⟨vb,vp,rfl,a,b⟩:=h;obtain⟨A1,c1,rfl,_,_⟩:=a.form;obtain⟨A2,c2,rfl,_,_⟩:=b.form;exact⟨A1,c1,A2,c2,rfl,a,b⟩
def aN (r:gD):List Value:=[.string r.name,O r.commit,O r.policy]
def iG:Rel gD:=dS aN
theorem iG.fair:Fair iG:=dS.fair _
def ajQ (w:World)(l:List Int)(e:Ending)(w':World):Prop:=∃ v,e=.returned v∧Own w.heap.size 3 1 aQ NoT w' v l∧RSl 1 8 aQ (New w) w' [v] l∧Below w.heap.size w w'
open Go.Sort
theorem Own.ank {base e g cap n m:Nat}{w:World}{xs ys:List Int}(h:Own base e 1 aQ NoT w (.slice (some ⟨g,0,none⟩) n cap) xs)(hy:ys.length=xs.length) :
  Own base e 1 aQ NoT (putRow (Value.int .i64) (Sort.ahead w m) g 0 ys.toArray) (.slice (some ⟨g,0,none⟩) n cap) ys:=by
 obtain⟨css,h1,h2,h3,h4⟩:=h;have hn:n=xs.length:=by
  rcases h1.2 with ⟨h0,_⟩ | ⟨g',cap',cur,h0,_⟩
  ·cases h0
  ·simp only[Value.slice.injEq] at h0;exact h0.2.1
 have hfl:(ys.map fun y=>[O y]).flatten=ys.map (Value.int .i64):=by
  clear hy
  induction ys with
  | nil=>rfl
  | cons y l ih=>rw[List.map_cons,List.flatten_cons,ih];rfl
 rcases h1.2 with ⟨h0,_⟩ | ⟨g',cap',cur,h0,hbg,hh,hnc,hcm,hcs,htk⟩
 ·cases h0
 ·simp only[Value.slice.injEq,Option.some.injEq,Addr.mk.injEq] at h0;obtain⟨⟨rfl,_,_⟩,hnx,rfl⟩:=h0;have hgl:g<w.heap.size:=(Array.getElem?_eq_some_iff.1 hh).1;refine⟨ys.map fun y=>[O y],⟨by rw[hfl];simp,.inr ⟨g,cap,putCells (Value.int .i64) 0 ys.toArray cur,by rw[hy,hn],hbg,?_,by omega,hcm,by simp[putCells,hcs],?_⟩⟩,by simp,h3,?_⟩
  ·simp only[putRow,mapBlock,Array.getElem?_modify];have e:(Sort.ahead w m).heap[g]? = w.heap[g]? := rfl;rw[e,hh];rfl
  ·rw[hfl];apply List.ext_getElem?;intro j
   by_cases hj:j<ys.length
   ·have hj2:j<cur.size:=by rw[hcs];omega
    rw[List.getElem?_map,List.getElem?_eq_getElem hj,List.getElem?_take_of_lt (by omega),Array.getElem?_toList];simp only[putCells,Array.getElem?_mapIdx,Array.getElem?_eq_getElem hj2,Option.map_some];rw[if_pos ⟨by omega,by simpa using hj⟩];simp[getElem!_pos,hj]
   ·rw[List.getElem?_eq_none (show (List.take _ _).length≤j by rw[List.length_take];omega),List.getElem?_eq_none (show (List.map _ ys).length≤j by simp;omega)]
  ·intro k x cs hx hc;rw[List.getElem?_map,hx] at hc;injection hc with hc
   subst hc;exact⟨rfl,rfl⟩
theorem abE (base:Nat)(v:Value)(l:List Int)(w:World)(ho:Own base 3 1 aQ NoT w v l)(hl:l.length≤17592186043904)(hb:base≤w.heap.size) :
  Calls prog 42 #[v] w fun e w'=>e=.returned (.tuple #[])∧Own base 3 1 aQ NoT w' v l.reverse∧Below base w w':=by
 have hform:=ho;obtain⟨css,h1,_⟩:=hform;rcases h1.2 with ⟨rfl,hn⟩ | ⟨g,cap,cur,rfl,hg,hh,hnc,_⟩
 ·have:l=[]:=List.eq_nil_of_length_eq_zero hn;subst this;refine(Tryz.slices_Reverse_int_empty none 0 w).mono ?_;rintro e w' ⟨rfl,rfl⟩;exact⟨rfl,Own.dJ _ _ _ _ _ _,Below.refl _ _⟩
 ·have hgl:g<w.heap.size:=(Array.getElem?_eq_some_iff.1 hh).1;have hH:Holds (Value.int .i64) w g 0 l.toArray:=Own.holds ho rfl (fun k x y cs hx hy hr=>by
   have hr':cs=[O x]:=hr;rw[hx] at hy;injection hy with hy
   rw[hr',←hy])
  refine(Tryz.slices_Reverse_int g 0 cap l w hH (by omega)).mono ?_;rintro e w' ⟨rfl,q,rfl⟩;have hgr:=sF (Value.int .i64) w q g 0 l.reverse.toArray #[];have e0:grow (putRow (Value.int .i64) (Sort.ahead w q) g 0 l.reverse.toArray) #[]=putRow (Value.int .i64) (Sort.ahead w q) g 0 l.reverse.toArray:=by unfold grow;rw[Array.append_empty]
  rw[e0] at hgr;exact⟨rfl,ho.ank (by simp),(Below.refl _ _).grown hgr hb (fun g' hg'=>by cases hg';exact hg)⟩
end
section
open Go.Proofs.Tryz
open Go.RowKit
theorem Fg (i:Nat)(m:List Bool)(p:Int):(nK i m p).length=m.length:=by unfold nK;split <;> simp
theorem VF (i:Nat):∀ (l:List Int) (m:List Bool),(l.foldl (nK i) m).length=m.length
 | [],_=>rfl
 | p::l,m=>by rw[List.foldl_cons,VF i l,Fg]
theorem adM (i:Nat)(l:List Int)(m:List Bool){q:Nat}(h:q<l.length):(l.take (q+1)).foldl (nK i) m=nK i ((l.take q).foldl (nK i) m) l[q]:=by
 rw[List.take_succ_eq_append_getElem h,List.foldl_append];rfl
theorem lS (l:List fD)(i:Nat)(m:List Bool):kD l (i+1) m=if m.getD i false then (i:Int)::kD l i ((kG l i).foldl (nK i) m) else kD l i m:=rfl
theorem Cr (l:List fD):∀ (i:Nat) (m:List Bool),(kD l i m).length≤i
 | 0,_=>Nat.le_refl _
 | i+1,m=>by
  rw[lS];split
  ·have:=Cr l i ((kG l i).foldl (nK i) m);simp;omega
  ·have:=Cr l i m;omega
theorem Jn {l:List fD}{i:Nat}(h:i<l.length):kG l i=l[i].parents:=by simp[kG,h]
theorem Own.base {α:Type}{base b2 e sz:Nat}{R:Rel α}{T:Nat→Prop}{w:World}{v:Value}{xs:List α}(h:Own base e sz R T w v xs)(hb:b2≤base):Own b2 e sz R T w v xs:=by
 obtain⟨css,⟨h0,h1⟩,h2⟩:=h;refine⟨css,⟨h0,h1.imp id ?_⟩,h2⟩;rintro⟨g,cap,cur,hv,hg,r⟩;exact⟨g,cap,cur,hv,Nat.le_trans hb hg,r⟩
theorem akA {P:Program}{ops:Array Oper}{rest:List Oper}{o:Oper}{a:Act}{Q:Exit→Act→World→Prop}(w:World)(hgd:o.guard=none)(l c:Operand){t e by_ n:Nat}{z:Value}{kl kc:IntKind}(hop:o.op=Op.makeSlice t l c)
  (ht:P.underlying t=some (.slice e)) (hi:(P.info? e).map (fun i=>(i.zero,i.size,i.bytes))=some (some z,1,by_)) (hz:z.cells=#[z]) (hl:a.eval l=.int kl (n:Int)) (hc:a.eval c=.int kc (n:Int)) (hb:by_*n≤281474976710656) (h63:n≤9223372036854775807)
  (hK:wpList P ops Q rest (a.put o.dst (.slice (some ⟨w.heap.size,0,none⟩) n n)) (w.alloc (.cells (Array.replicate n z) e))):wpList P ops Q (o::rest) a w:=by
 obtain⟨i,hi,hzz⟩:=Option.map_eq_some_iff.1 hi;simp only[Prod.mk.injEq] at hzz;obtain⟨h1,h2,h3⟩:=hzz;have e0:madeCells #[z] n=Array.replicate n z:=by rw[←List.toArray_replicate,←toList_madeCells_one]
 refine wpList_make_row w hgd l c t hop e i z ht hi h1 h2 hz kl kc n hl hc (by rw[h3];exact hb) h63 ?_;rw[e0];exact hK
theorem xm (S:Nat→Prop)(v:Value)(l:List fD)(n:Int)(w:World)(hl:RSl 2 48 dw S w [v] l)(hn:l.length≤1000000) :
  Calls prog 17 #[v,O n] w (ajQ w (dZ l n)):=by
 obtain⟨A,cap,rfl,hlc,hlb⟩:=hl.form;have HL:=hidL hl;obtain⟨R,hR⟩:=exE (dZ l n);rw[←hR];have HR:=hidL hR;clear hl hR;go_enter func17,ntmps17
 by_cases h0:n<0
 ·have h1:decide (n<0)=true:=by simpa using h0
  have hr:R=[]:=by rw[HR.out,dZ,if_pos (.inl h0)]
  subst hr;clear h0;go_wp2;go_ret;exact⟨_,rfl,Own.dJ _ _ _ _ _ _,RSl.dJ,Below.refl _ _⟩
 ·have h1:decide (n<0)=false:=by simpa using h0
  by_cases h2:(l.length:Int)≤n
  ·have h3:decide (n≥l.length)=true:=by simpa using h2
   have hr:R=[]:=by rw[HR.out,dZ,if_pos (.inr h2)]
   subst hr;clear h0 h2;go_wp2;go_ret;exact⟨_,rfl,Own.dJ _ _ _ _ _ _,RSl.dJ,Below.refl _ _⟩
  ·have h3:decide (n≥l.length)=false:=by simpa using h2
   obtain⟨k0,rfl⟩:∃ k:Nat,n=k:=⟨n.toNat,by omega⟩;have hk0:k0<l.length:=by omega
   obtain⟨m0,hm0⟩:=exE ((List.replicate l.length false).set k0 true);have Hr:Hid (R=(kD l (k0+1) m0).reverse):=by show _=_;rw[HR.out,dZ,if_neg (by omega),hm0,Int.toNat_natCast]
   have hm0l:m0.length=l.length:=by rw[hm0];simp
   have hm0c:((List.replicate l.length (Value.bool false)).set k0 (.bool true))=m0.map Value.bool:=by rw[hm0,List.map_set,List.map_replicate]
   clear h0 h2 hm0;have Hm0l:=hidL hm0l;have Hm0c:=hidL hm0c;clear hm0l hm0c;go_wp2_with (at_make;go_must (refine akA _ rfl (.tmp 19) (.tmp 19) rfl (z:=.bool false) (by_:=1) underlying101 (by kernel_rfl) rfl rfl rfl ?_ ?_ ?_))
   ·omega
   ·omega
   have hI:=Box.new w 4 (List.replicate l.length (.bool false));rw[List.toArray_replicate] at hI;have hIl:=hI.lt;have c0:(w.alloc (.cells (Array.replicate l.length (Value.bool false)) 4)).cell? ⟨w.heap.size,k0,none⟩=some (.bool false):=by rw[hI.cell];simp[hk0]
   have f0:=hI.frozen k0;go_wp2_with fail;have hI2:Box (w.alloc (.cells ((Array.replicate l.length (Value.bool false)).setIfInBounds k0 (.bool true)) 4)) w.heap.size 4 (m0.map Value.bool):=by
    have:=Box.new w 4 (m0.map Value.bool);rw[←Hm0c.out] at this ⊢;rw[←List.toArray_replicate,List.setIfInBounds_toArray];exact this
   have hB2:=(Below.here w).alloc (Nat.le_refl _) (.cells ((Array.replicate l.length (Value.bool false)).setIfInBounds k0 (.bool true)) 4);clear c0 f0 hIl hI;obtain⟨G,hG⟩:=exE (kD l (k0+1) m0);rw[←hG] at Hr;have HG:=hidL hG;clear hG;go_loopw [6,7] (fun vo i wr=>∃ (k:Nat) (x:Int) (m:List Bool) (acc:List Int),i=O x∧x+1=(k:Int)∧k≤l.length∧m.length=l.length∧Hid (acc++kD l k m=G)∧acc.length+k≤l.length ∧
     Own (w.heap.size+1) 3 1 aQ NoT wr vo acc∧Box wr w.heap.size 4 (m.map Value.bool)∧Below w.heap.size w wr) (fun _ i _=>(intOf i+1).toNat)
   case atStart=>exact⟨k0+1,k0,m0,[],rfl,by omega,by omega,Hm0l.out,(show _=_ by rw[HG.out];rfl),by simp;omega,Own.dJ _ _ _ _ _ _,hI2,hB2⟩
   case round =>
    clear hI2 hB2;obtain⟨k,x,m,acc,rfl,hx,hk,hml,he,hal,hO,hI,hB⟩:=hrel;obtain⟨Ao,co,rfl,hco⟩:=hO.form
    by_cases hx0:x<0
    ·--[OUT
     have hd:decide (x≥0)=false:=by simp;omega
     obtain rfl:k=0:=by omega
     have hacc:acc=G:=by rw[←he.out];simp[kD]
     have hcall:=hidL (abE (w.heap.size+1) _ acc wr hO (by omega) hI.lt);have Hacc:=hidL hacc;clear hO hI hx hx0 hacc he;go_wp2_with fail;refine hcall.out.mono ?_;rintro e w3 ⟨rfl,ho3,hb3⟩;have ho4:=ho3.base (Nat.le_succ _);have hal2:acc.reverse.length≤1000000:=by simp;omega
     have hr4:RSl 1 8 aQ (New w) w3 [.slice Ao acc.length co] acc.reverse:=ho4.read aQ.fair (fun _ h=>h.elim) (fun k hk=>(ho4.lt hk).1) (by omega);have Hr3:=hidL hr4;have Ho3:=hidL ho4;clear ho3 ho4 hr4 hal2;go_wp2;go_ret;exact⟨_,rfl,by rw[Hr.out,←Hacc.out];exact Ho3.out,by rw[Hr.out,←Hacc.out];exact Hr3.out,hB.trans (hb3.mono (Nat.le_succ _))⟩
    ·obtain⟨j,rfl⟩:∃ j:Nat,x=j:=⟨x.toNat,by omega⟩;obtain rfl:k=j+1:=by omega
     have hd:decide ((j:Int)≥0)=true:=by simp
     have hjl:j<l.length:=by omega
     have hjm:j<m.length:=by omega
     have e1:IntKind.i64.wrap ((j:Int)-1)=(j:Int)-1:=IntWalk.i64_in _ (by omega);have hgo:=lS l j m;obtain⟨bt,hbt⟩:=exE (m[j]);rw[List.getD_eq_getElem?_getD,List.getElem?_eq_getElem hjm,Option.getD_some,←hbt] at hgo;have c0:wr.cell? ⟨w.heap.size,j,none⟩=some (.bool bt):=by rw[hI.cell,List.getElem?_map,List.getElem?_eq_getElem hjm,hbt];rfl
     have hIl:=hI.lt;have hji:(j:Int)<l.length:=by omega
     clear hx hx0 hbt;cases bt with
     | false =>
      have He:=hidL (show acc++kD l j m=G by rw[←he.out,hgo];rfl);clear hgo he;go_wp2;go_roundw
      case rel=>exact⟨j,(j:Int)-1,m,acc,rfl,by omega,by omega,hml,He.out,by omega,hO,hI,hB⟩
      case measure=>simp[intOf]
     | true =>
      obtain⟨g,o,rfl,hS,hg⟩:=HL.out.base (by omega);obtain⟨es,-,hrc,hlc0⟩:=HL.out.lies hjl;obtain⟨B1,b1,B2,b2,rfl,-,hps⟩:=hrc.parts;have hgl:g<wr.heap.size:=Nat.lt_of_lt_of_le hg hB.size;rw[if_pos rfl,Jn hjl] at hgo;have hq1:∀ W,Below w.heap.size w W→LL W g (o+j*2+1) (.slice B2 l[j].parents.length b2):=fun W h=>(hlc0.keep (az.of_below h) hS).at_ 1 rfl
      obtain⟨ps,hpse⟩:=exE (l[j].parents);rw[←hpse] at hps hgo hq1;have He:=hidL (show (acc++[(j:Int)])++kD l j (ps.foldl (nK j) m)=G by rw[←he.out,hgo];simp);have HP:=hidL hps;have Hq1:=hidL hq1;obtain⟨_,_,-,-,hpb⟩:=hps.form;have Hpb:=hidL hpb;clear hgo he hrc hlc0 hpse hps hq1 hpb;go_wp2_with (at_builtin;go_must (refine bv _ rfl (.tmp 34) (.tmp 36) rfl qh aQ.fair rfl rfl (hO.alloc aQ.fair _) (Src.one (es:=[O (j:Int)]) (y:=(j:Int)) rfl (gI.bK rfl) rfl (ik.newAt (by first | rfl | simp[World.setCell]))) (NoT.lt _) ?_ ?_ ?_))
      ·go_light;(try simp only[List.length_cons,List.length_nil]);omega
      ·go_light;have:=hI.lt;simp only[World.size_alloc];omega
      intro v5 w5 ho5 hg5 hv5;have hI5:=(hI.alloc (.cells #[O (j:Int)] 3)).fU (hO.alloc aQ.fair _) (.inl (Nat.lt_succ_self _)) hg5;have hB5:=below_grown (hB.alloc hB.size (.cells #[O (j:Int)] 3)) hg5 (by go_light;have:=hB.size;simp only[World.size_alloc];omega) (fun g' h=>by have:=(hO.lt h).1;go_light;omega);have q1:=Hq1.out w5 hB5;have hgl5:g<w5.heap.size:=Nat.lt_of_lt_of_le hg hB5.size;clear hO hI hB hg5 hv5 c0 hIl hgl hco Hq1;go_wp2_with fail;clear q1 hgl5;go_loopw [44] (fun q wi=>∃ (i:Nat),q=O i∧i≤ps.length∧Own (w.heap.size+1) 3 1 aQ NoT wi v5 (acc++[(j:Int)])∧Box wi w.heap.size 4 ((((ps.take i).foldl (nK j) m)).map Value.bool)∧Below w.heap.size w wi) (fun q _=>ps.length-(intOf q).toNat)
      case atStart=>exact⟨0,rfl,by omega,ho5,hI5,hB5⟩
      case round =>
       clear ho5 hI5 hB5;obtain⟨i,rfl,hi,hO,hI,hB⟩:=hrel;have hmm:=VF j (ps.take i) m;rw[hml] at hmm
       by_cases hil:i<ps.length
       ·--[STEP
        obtain⟨g2,o2,rfl,hS2,hg2⟩:=HP.out.base (by omega);have hc:=(HP.out.flat (enc:=fun x:Int=>[O x]) hil).keep (az.of_below hB) hS2;have hst:=adM j ps m hil;obtain⟨p,hp⟩:=exE (ps[i]);rw[←hp] at hc hst;have q0:LL wr g2 (o2+i) (O p):=by have:=hc.at_ 0 rfl;simpa using this
        have hgl2:g2<wr.heap.size:=Nat.lt_of_lt_of_le hg2 hB.size;have hili:(i:Int)<ps.length:=by omega
        have e9:IntKind.i64.wrap ((i:Int)+1)=(i:Int)+1:=IntWalk.i64_in _ (by have:=Hpb.out;omega);obtain⟨mm,hmme⟩:=exE ((ps.take i).foldl (nK j) m);rw[←hmme] at hst hI hmm;clear hc hp hmme
        by_cases hp0:0≤p
        ·have d1:decide (p≥0)=true:=by simpa using hp0
         by_cases hpj:p<j
         ·--[MARK
          have d2:decide (p<(j:Int))=true:=by simpa using hpj
          obtain⟨pn,rfl⟩:∃ pn:Nat,p=pn:=⟨p.toNat,by omega⟩;have d3:decide (pn<j)=true:=by simpa using hpj
          have hpm:pn<mm.length:=by omega
          have hpl:(pn:Int)<l.length:=by omega
          have c1:wr.cell? ⟨w.heap.size,pn,none⟩=some (.bool mm[pn]):=by rw[hI.cell,List.getElem?_map,List.getElem?_eq_getElem hpm];rfl
          have f1:=hI.frozen pn;have hIl:=hI.lt;have Hst:=hidL (show (ps.take (i+1)).foldl (nK j) m=mm.set pn true by rw[hst,nK,if_pos ⟨hp0,hpj⟩,Int.toNat_natCast]);clear hst hp0 hpj;go_wp2_with fail;clear c1 f1 hIl q0;go_roundw
          case rel =>
           have hI2:=hI.gB pn (.bool true);rw[show (mm.map Value.bool).set pn (.bool true)=(mm.set pn true).map Value.bool by rw[List.map_set]] at hI2;exact⟨i+1,by go_num,by omega,hO.setCell aQ.fair (p:=⟨w.heap.size,pn,none⟩) (.bool true) (fun h=>by have h':w.heap.size+1≤w.heap.size:=(hO.lt h).1;omega) (fun h=>h),by rw[Hst.out];exact hI2,hB.setCell (p:=⟨w.heap.size,pn,none⟩) (Nat.le_refl _) (.bool true)⟩
          case measure=>simp[intOf];omega
         ·have d2:decide (p<(j:Int))=false:=by simpa using hpj
          have Hst:=hidL (show (ps.take (i+1)).foldl (nK j) m=mm by rw[hst,nK,if_neg (fun h=>hpj h.2)]);clear hst hp0 hpj;go_wp2;go_roundw
          case rel=>exact⟨i+1,by go_num,by omega,hO,by rw[Hst.out];exact hI,hB⟩
          case measure=>simp[intOf];omega
        ·have d1:decide (p≥0)=false:=by simpa using hp0
         have Hst:=hidL (show (ps.take (i+1)).foldl (nK j) m=mm by rw[hst,nK,if_neg (fun h=>hp0 h.1)]);clear hst hp0;go_wp2;go_roundw
         case rel=>exact⟨i+1,by go_num,by omega,hO,by rw[Hst.out];exact hI,hB⟩
         case measure=>simp[intOf];omega
       ·--[NEXT
        have hia:ps.take i=ps:=List.take_of_length_le (by omega);rw[hia] at hI hmm;have hili:¬ (i:Int)<ps.length:=by omega
        obtain⟨mm,hmme⟩:=exE (ps.foldl (nK j) m);rw[←hmme] at hI hmm He;clear hia hmme;go_wp2;go_roundw
        case rel=>exact⟨j,(j:Int)-1,mm,acc++[(j:Int)],rfl,by omega,by omega,hmm,He.out,by simp;omega,hO,hI,hB⟩
        case measure=>simp[intOf]
theorem BX (l:List fD):∀ (i:Nat) (m:List Bool) (x:Int),x∈kD l i m→0≤x∧x<i
 | 0,_,x,h=>by simp[kD] at h
 | i+1,m,x,h=>by
  rw[lS] at h;split at h
  ·rcases List.mem_cons.1 h with h | h
   ·omega
   ·have:=BX l i _ x h;omega
  ·have:=BX l i _ x h;omega
theorem xL {l:List fD}{n x:Int}(h:x∈dZ l n):0≤x∧x≤n∧x<l.length:=by
 unfold dZ at h;split at h
 ·simp at h
 ·have:=BX l _ _ x (List.mem_reverse.1 h);omega
theorem IQ (l:List fD)(n:Int):(dZ l n).length≤l.length:=by
 unfold dZ;split
 ·simp
 ·have:=Cr l (n.toNat+1) ((List.replicate l.length false).set n.toNat true);rw[List.length_reverse];omega
theorem sw {l:List fD}{i:Int}{k:Nat}(hi:i=k)(h:k<l.length):ib l i=l[k].book:=by subst hi;simp[ib,h]
theorem NF {R f:List aX}{r:List (List aX)}(h:R=iR ((if true=true then [f] else [])++r))(hf:0<f.length):R=f:=by
 have hn:f≠[]:=fun e=>by rw[e] at hf;simp at hf
 rw[h,if_pos rfl,List.singleton_append,iR,if_neg hn]
theorem aai {R f:List aX}{r:List (List aX)}(h:R=iR ((if true=true then [f] else [])++r))(hf:f=[]):R=iR r:=by
 rw[h,if_pos rfl,List.singleton_append,iR,if_pos hf]
theorem Iz (S:Nat→Prop)(v:Value)(l:List fD)(n policy:Int)(w:World)(hl:RSl 2 48 dw S w [v] l)(hn:l.length≤1000)(hp:0≤policy∧policy≤3)(hok:∀ c∈l,aS c.book)(hW:Words w) :
  Calls prog 55 #[v,O n,O policy] w (fun e w'=>∃ vf,e=.returned vf∧RSl 3 32 aU (New w) w' [vf] (ji l n policy)∧Below w.heap.size w w'):=by
 obtain⟨A,cap,rfl,hlc,hlb⟩:=hl.form;obtain⟨R,hR⟩:=exE (ji l n policy);rw[←hR];have HR:=hidL hR;have HL:=hidL hl;have HW:=hidL hW;have HOK:=hidL hok;clear hR hl hW hok;go_enter func55,ntmps55
 by_cases h0:policy=0
 ·subst h0;have hr:R=[]:=by rw[HR.out,ji,if_pos rfl]
  subst hr;go_wp2;go_ret;exact⟨_,rfl,RSl.dJ,Below.refl _ _⟩
 ·have h1:(policy==0)=false:=by simpa using h0
  have Hp3:=hidL (show policy=1∨policy=2∨policy=3 by omega);obtain⟨bl,hbl⟩:=exE (dZ l n);have Hr:Hid (R=iR ((bl.drop 0).flatMap fun c=>(dZ l c).flatMap (Ga l policy c))):=by show _=_;rw[HR.out,ji,if_neg h0,hbl];rfl
  have hbm:∀ x∈bl,0≤x∧x<l.length:=fun x hx=>by rw[hbl] at hx;have:=xL hx;omega
  have hbn:bl.length≤l.length:=by rw[hbl];exact IQ l n
  have Hbm:=hidL hbm;have hc:=xm S _ l n w HL.out (by omega);rw[←hbl] at hc;have Hc:=hidL hc;clear hbl hbm hc h0;go_wp2_with fail;refine Hc.out.mono ?_;rintro e w1 ⟨v1,rfl,-,hr1,hb1⟩;obtain⟨A1,c1,rfl,-,-⟩:=hr1.form;have HR1:=hidL hr1;clear hr1 Hc;go_wp2_with fail;go_loopw [23] (fun i wr=>∃ k:Nat,i=O k∧k≤bl.length∧Hid (R=iR ((bl.drop k).flatMap fun c=>(dZ l c).flatMap (Ga l policy c)))∧Below w1.heap.size w1 wr) (fun i _=>bl.length-(intOf i).toNat)
  case atStart=>exact⟨0,rfl,Nat.zero_le _,Hr,Below.refl _ _⟩
  case round =>
   clear Hr;obtain⟨k,rfl,hk,Hr,hB⟩:=hrel;have hBw:=aa hb1 hB hb1.size
   by_cases hlt:k<bl.length
   ·obtain⟨g,o,rfl,hS,hg⟩:=HR1.out.base (by omega);have hc:=(HR1.out.flat (enc:=fun x:Int=>[O x]) hlt).keep (az.of_below hB) hS;have hcm:=Hbm.out _ (List.getElem_mem hlt);have hd:bl.drop k=bl[k]::bl.drop (k+1):=List.drop_eq_getElem_cons hlt;obtain⟨c,hce⟩:=exE (bl[k]);rw[←hce] at hc hcm hd;have q0:LL wr g (o+k) (O c):=by have:=hc.at_ 0 rfl;simpa using this
    have hgl:g<wr.heap.size:=Nat.lt_of_lt_of_le hg hB.size;have hki:(k:Int)<bl.length:=by omega
    obtain⟨al,hal⟩:=exE (dZ l c);obtain⟨T1,hT1⟩:=exE ((bl.drop (k+1)).flatMap fun c=>(dZ l c).flatMap (Ga l policy c));have Hr1:=hidL (show R=iR ((al.drop 0).flatMap (Ga l policy c)++T1) by rw[Hr.out,hd,List.flatMap_cons,←hT1,hal];rfl);have Hr0:=hidL (show ∀ (_:R=iR T1),R=iR ((bl.drop (k+1)).flatMap fun c=>(dZ l c).flatMap (Ga l policy c)) from fun h=>by rw[h,hT1]);have ham:∀ x∈al,0≤x∧x<l.length:=fun x hx=>by rw[hal] at hx;have:=xL hx;omega
    have han:al.length≤l.length:=by rw[hal];exact IQ l c
    have Ham:=hidL ham;have hcall:=xm S _ l c wr ((RSl.fair dw.fair).below HL.out hBw) (by omega);rw[←hal] at hcall;have Hcall:=hidL hcall;clear hc hce hd hal hT1 ham hcall Hr;go_wp2_with fail;clear q0 hgl;refine Hcall.out.mono ?_;rintro e w2 ⟨v2,rfl,-,hr2,hb2⟩;obtain⟨A2,c2,rfl,-,-⟩:=hr2.form;have HR2:=hidL hr2;have hB2:=aa hB hb2 hB.size;have hBw2:=aa hBw hb2 hBw.size;clear hr2 Hcall hB hBw;go_wp2_with fail;go_loopw [31] (fun i wi=>∃ j:Nat,i=O j∧j≤al.length∧Hid (R=iR ((al.drop j).flatMap (Ga l policy c)++T1))∧Below w2.heap.size w2 wi) (fun i _=>al.length-(intOf i).toNat)
    case atStart=>exact⟨0,rfl,Nat.zero_le _,Hr1,Below.refl _ _⟩
    case round =>
     clear Hr1;obtain⟨j,rfl,hj,Hr,hB⟩:=hrel;have hBw:=aa hBw2 hB hBw2.size;have hBv:=aa hB2 hB hB2.size
     by_cases hlt2:j<al.length
     ·obtain⟨g,o,rfl,hS,hg⟩:=HR2.out.base (by omega);have hc:=(HR2.out.flat (enc:=fun x:Int=>[O x]) hlt2).keep (az.of_below hB) hS;have ham:=Ham.out _ (List.getElem_mem hlt2);have hd:al.drop j=al[j]::al.drop (j+1):=List.drop_eq_getElem_cons hlt2;obtain⟨a,hae⟩:=exE (al[j]);rw[←hae] at hc ham hd;have q0:LL wr g (o+j) (O a):=by have:=hc.at_ 0 rfl;simpa using this
      have hgl:g<wr.heap.size:=Nat.lt_of_lt_of_le hg hB.size;have hji:(j:Int)<al.length:=by omega
      have hr':R=iR (Ga l policy c a++((al.drop (j+1)).flatMap (Ga l policy c)++T1)):=by rw[Hr.out,hd,List.flatMap_cons,List.append_assoc]
      have e9:IntKind.i64.wrap ((j:Int)+1)=(j:Int)+1:=IntWalk.i64_in _ (by omega)
      by_cases hac:a=c
      ·--[SAME
       have hd1:(a==c)=true:=by simpa using hac
       have Hr2:=hidL (show R=iR ((al.drop (j+1)).flatMap (Ga l policy c)++T1) by rw[hr',Ga,if_pos hac,List.nil_append]);clear hc hae hd hr' Hr hac;go_wp2;go_roundw
       case rel=>exact⟨j+1,by go_num,by omega,Hr2,hB⟩
       case measure=>simp[intOf];omega
      ·--[OTHER
       have hd1:(a==c)=false:=by simpa using hac
       obtain⟨ka,rfl⟩:∃ k:Nat,a=k:=⟨a.toNat,by omega⟩;obtain⟨kc,rfl⟩:∃ k:Nat,c=k:=⟨c.toNat,by omega⟩;have hka:ka<l.length:=by omega
       have hkc:kc<l.length:=by omega
       have hkai:(ka:Int)<l.length:=by omega
       have hkci:(kc:Int)<l.length:=by omega
       obtain⟨T2,hT2⟩:=exE ((al.drop (j+1)).flatMap (Ga l policy (kc:Int))++T1);obtain⟨Ba,hBa⟩:=exE (l[ka].book);obtain⟨Bc,hBc⟩:=exE (l[kc].book);have hba:ib l (ka:Int)=Ba:=by rw[hBa];exact sw rfl hka
       have hbc:ib l (kc:Int)=Bc:=by rw[hBc];exact sw rfl hkc
       obtain⟨WB,hWB⟩:=exE (fun t=>(if policy % 2=1 then [(dH Ba Bc t.name).1] else [])++(if 2≤policy then [(dH Bc Ba t.name).1] else []):ax→List (List aX));have Hr2:=hidL (show R=iR ((Ba.drop 0).flatMap WB++T2) by
        rw[hr',Ga,if_neg hac,←hT2,hba,hWB];unfold abB;rw[hba,hbc];rfl)
       have Hr3:=hidL (show ∀ (_:R=iR T2),R=iR ((al.drop (j+1)).flatMap (Ga l policy (kc:Int))++T1) from fun h=>by rw[h,hT2]);obtain⟨gL,oL,rfl,hSL,hgL⟩:=HL.out.base (by omega);obtain⟨es,-,hrc,hlca⟩:=HL.out.lies hka;obtain⟨P1,p1,P2,p2,rfl,hbka,-⟩:=hrc.parts;obtain⟨es,-,hrc,hlcc⟩:=HL.out.lies hkc;obtain⟨Q1,q1,Q2,q2,rfl,hbkc,-⟩:=hrc.parts;rw[←hBa] at hbka hlca;rw[←hBc] at hbkc hlcc;have HA0:Hid (∀ W,Below w.heap.size w W→LL W gL (oL+ka*2) (.slice P1 Ba.length p1)∧LL W gL (oL+kc*2) (.slice Q1 Bc.length q1)∧gL<W.heap.size):=fun W h =>
        ⟨by have:=(hlca.keep (az.of_below h) hSL).at_ 0 rfl;simpa using this,by have:=(hlcc.keep (az.of_below h) hSL).at_ 0 rfl;simpa using this,Nat.lt_of_lt_of_le hgL h.size⟩
       have HBa:=hidL hbka;have HBc:=hidL hbkc;have Hoa:=hidL (show aS Ba by rw[hBa];exact HOK.out _ (List.getElem_mem hka));have Hoc:=hidL (show aS Bc by rw[hBc];exact HOK.out _ (List.getElem_mem hkc));obtain⟨_,_,-,-,hbla⟩:=hbka.form;have Hbla:=hidL hbla;have HWB:=hidL hWB;obtain⟨m0,m1,m2⟩:=HA0.out wr hBw;clear hc hae hd hr' Hr hac hrc hlca hlcc hbka hbkc hBa hBc hT2 hba hbc hbla hWB;go_wp2_with fail;clear q0 hgl m0 m1 m2;obtain⟨U,hU⟩:=exE wr;subst hU;go_loopw [45] (fun i wi=>∃ q:Nat,i=O q∧q≤Ba.length∧Hid (R=iR ((Ba.drop q).flatMap WB++T2))∧Below U.heap.size U wi) (fun i _=>Ba.length-(intOf i).toNat)
       case atStart=>exact⟨0,rfl,Nat.zero_le _,Hr2,Below.refl _ _⟩
       case round =>
        clear Hr2;obtain⟨q,rfl,hq,Hr,hBU⟩:=hrel;have hBr:=aa hBw hBU hBw.size
        by_cases hql:q<Ba.length
        ·obtain⟨gt,ot,rfl,hSt,hgt⟩:=HBa.out.base (by omega);obtain⟨es,-,hrt,hlt0⟩:=HBa.out.lies hql;have hlt1:=hlt0.keep (az.of_below hBr) hSt;have hd:Ba.drop q=Ba[q]::Ba.drop (q+1):=List.drop_eq_getElem_cons hql;obtain⟨t,hte⟩:=exE (Ba[q]);rw[←hte] at hrt hd;obtain⟨X1,x1,X2,x2,X3,x3,rfl,-,-,-⟩:=hrt.parts;have q0:=hlt1.a0 rfl;have q1:=hlt1.at_ 1 rfl;have q2:=hlt1.at_ 2 rfl;have q3:=hlt1.at_ 3 rfl;have q4:=hlt1.at_ 4 rfl;have hgl:gt<wr.heap.size:=Nat.lt_of_lt_of_le hgt hBr.size;have hqi:(q:Int)<Ba.length:=by omega
         have hr':R=iR ((if policy % 2=1 then [(dH Ba Bc t.name).1] else [])++((if 2≤policy then [(dH Bc Ba t.name).1] else [])++((Ba.drop (q+1)).flatMap WB++T2))):=by rw[Hr.out,hd,List.flatMap_cons,HWB.out];simp only[List.append_assoc]
         have e9:IntKind.i64.wrap ((q:Int)+1)=(q:Int)+1:=IntWalk.i64_in _ (by have:=Hbla.out;omega);have hB7:=hBr.alloc hBr.size (.cells (TT t X1 x1 X2 x2 X3 x3).toArray 53);have hU7:=hBU.alloc hBU.size (.cells (TT t X1 x1 X2 x2 X3 x3).toArray 53);have hX7:=Box.new wr 53 (TT t X1 x1 X2 x2 X3 x3);have Hr':=hidL hr';clear hd hte hrt hlt0 hlt1 hr' Hr;go_upto_region 13 with fail;clear q0 q1 q2 q3 q4 hgl;generalize hWt:World.alloc wr _=Wt at hB7 hU7 hX7 ⊢;clear hWt;generalize wr.heap.size=X at hX7 ⊢;obtain⟨pb,hpb⟩:=exE (decide (policy % 2=1):Bool);have Hpb:=hidL hpb;clear hpb;go_cut [51] from 49 to 51 (fun s wx=>s=.bool pb∧wx=Wt)
         case first =>
          rcases Hp3.out with rfl | rfl | rfl
          all_goals
           go_wp2;go_meet
           case rel=>exact⟨by rw[Hpb.out];rfl,rfl⟩
         case rest =>
          obtain⟨rfl,rfl⟩:=hcut;obtain⟨V,hV⟩:=exE wc;subst hV;obtain⟨F1,hF1⟩:=exE ((dH Ba Bc t.name));obtain⟨F2,hF2⟩:=exE ((dH Bc Ba t.name));have Hr4:=hidL (show R=iR ((if pb=true then [F1.1] else [])++((if 2≤policy then [F2.1] else [])++((Ba.drop (q+1)).flatMap WB++T2))) by rw[Hr'.out,hF1,hF2,Hpb.out];simp only[decide_eq_true_eq]);have HC1:=hidL (fun W (h:Below w.heap.size w W)=>qI S _ _ Ba Bc t.name W ((RSl.fair ah.fair).below HBa.out h) ((RSl.fair ah.fair).below HBc.out h) (HW.out.below h) Hoa.out Hoc.out);have HC2:=hidL (fun W (h:Below w.heap.size w W)=>qI S _ _ Bc Ba t.name W ((RSl.fair ah.fair).below HBc.out h) ((RSl.fair ah.fair).below HBa.out h) (HW.out.below h) Hoc.out Hoa.out);rw[←hF1] at HC1;rw[←hF2] at HC2;clear hF1 hF2;have HS1:=hidL (fun W (h:Below w.heap.size w W) (hx:Box W X 53 (TT t X1 x1 X2 x2 X3 x3))=>show (fun W'=>LL W' gL (oL+ka*2) (.slice (some ⟨gt,ot,none⟩) Ba.length p1)∧LL W' gL (oL+kc*2) (.slice Q1 Bc.length q1)∧LL W' X 0 (.string t.name)) W from⟨(HA0.out W h).1,(HA0.out W h).2.1,hx.cell 0⟩);clear Hr';cases pb
          case' true =>
           go_upto_region 14 with fail;have hS:=HS1.out _ (au hB7) hX7.drew;replace hB7:=au hB7;replace hU7:=au hU7;replace hX7:=hX7.drew;have hgV:=(HA0.out _ hB7).2.2;have hlX:=hX7.lt;refine aJ (fun W'=>LL W' gL (oL+ka*2) (.slice (some ⟨gt,ot,none⟩) Ba.length p1)∧LL W' gL (oL+kc*2) (.slice Q1 Bc.length q1)∧LL W' X 0 (.string t.name)) (fun _=>true) (by kernel_rfl) ?_;generalize World.drew _=V at hS hB7 hU7 hX7 hgV hlX ⊢;apply ppP 0;apply ppP 1;apply ppP 2;apply ppP 3;apply tkP 4 hS;apply ppP 5;apply ppP 6;apply ppP 7;apply ppP 8;apply tkP 9 hS;apply ppP 10;apply tkP 11 hS
           try simp only[pu]
           refine ang 12 (fun K hK=>?_);go_simp;refine(HC1.out _ hB7).mono ?_;rintro e w5 ⟨vf,rfl,hrf,hb5⟩;obtain⟨Af,cf,rfl,-,-⟩:=hrf.form;have hrf2:=(RSl.fair aU.fair).mono hrf (T:=New w) (fun y hy _=>Nat.le_trans hB7.size hy);replace hB7:=aa hB7 hb5 hB7.size;replace hU7:=aa hU7 hb5 hU7.size;replace hX7:=hX7.below hb5 hX7.lt;replace hS:=HS1.out _ hB7 hX7;clear hrf hb5 hgV hlX;refine hK.out _ _ (fun _ _=>hS) ?_
           try simp only[pu]
           apply ppP 13;apply ppP 14;apply ppP 15;apply ppP 16;apply ppP 17
           try simp only[pu]
           refine anf ?_ _;clear hS
           by_cases hF:0<F1.1.length
           ·have hFi:decide (0<F1.1.length)=true:=by simpa using hF
            have hR':R=F1.1:=NF Hr4.out hF;subst hR';clear hF;go_wp2;go_ret;exact⟨_,rfl,hrf2,hB7⟩
           have hFi:decide (0<F1.1.length)=false:=by simpa using hF
           have hF0:F1.1=[]:=List.eq_nil_of_length_eq_zero (by omega);have Hr5:=hidL (aai Hr4.out hF0);clear hF0 hrf2 HC1;clear Hr4
          case' false =>
           have Hr5:=hidL (show R=iR ((if 2≤policy then [F2.1] else [])++((Ba.drop (q+1)).flatMap WB++T2)) by rw[Hr4.out];rfl);clear Hr4 HC1;obtain⟨w5,h5⟩:=exE V;subst h5
          all_goals
           obtain⟨p2,hp2⟩:=exE (decide (2≤policy):Bool);have Hp2:=hidL hp2;have Hr6:=hidL (show R=iR ((if p2=true then [F2.1] else [])++((Ba.drop (q+1)).flatMap WB++T2)) by rw[Hr5.out,hp2];simp only[decide_eq_true_eq]);clear hp2 Hr5;go_upto_region 17 with fail;go_cut [74] from 72 to 74 (fun s wx=>s=.bool p2∧wx=w5)
           case first =>
            rcases Hp3.out with rfl | rfl | rfl
            all_goals
             go_wp2;go_meet
             case rel=>exact⟨by rw[Hp2.out];rfl,rfl⟩
           case rest =>
            obtain⟨rfl,rfl⟩:=hcut;obtain⟨V,hV⟩:=exE wc;subst hV;cases p2
            case' true =>
             go_upto_region 18 with fail;have hS:=HS1.out _ (au hB7) hX7.drew;replace hB7:=au hB7;replace hU7:=au hU7;replace hX7:=hX7.drew;have hgV:=(HA0.out _ hB7).2.2;have hlX:=hX7.lt;refine aJ (fun W'=>LL W' gL (oL+ka*2) (.slice (some ⟨gt,ot,none⟩) Ba.length p1)∧LL W' gL (oL+kc*2) (.slice Q1 Bc.length q1)∧LL W' X 0 (.string t.name)) (fun _=>true) (by kernel_rfl) ?_;generalize World.drew _=V at hS hB7 hU7 hX7 hgV hlX ⊢;apply ppP 0;apply ppP 1;apply ppP 2;apply ppP 3;apply tkP 4 hS;apply ppP 5;apply ppP 6;apply ppP 7;apply ppP 8;apply tkP 9 hS;apply ppP 10;apply tkP 11 hS
             try simp only[pu]
             refine ang 12 (fun K hK=>?_);go_simp;refine(HC2.out _ hB7).mono ?_;rintro e w5 ⟨vf,rfl,hrf,hb5⟩;obtain⟨Af,cf,rfl,-,-⟩:=hrf.form;have hrf2:=(RSl.fair aU.fair).mono hrf (T:=New w) (fun y hy _=>Nat.le_trans hB7.size hy);replace hB7:=aa hB7 hb5 hB7.size;replace hU7:=aa hU7 hb5 hU7.size;replace hX7:=hX7.below hb5 hX7.lt;replace hS:=HS1.out _ hB7 hX7;clear hrf hb5 hgV hlX;refine hK.out _ _ (fun _ _=>hS) ?_
             try simp only[pu]
             apply ppP 13;apply ppP 14;apply ppP 15;apply ppP 16;apply ppP 17
             try simp only[pu]
             refine anf ?_ _;clear hS
             by_cases hF:0<F2.1.length
             ·have hFi:decide (0<F2.1.length)=true:=by simpa using hF
              have hR':R=F2.1:=NF Hr6.out hF;subst hR';clear hF;go_wp2;go_ret;exact⟨_,rfl,hrf2,hB7⟩
             have hFi:decide (0<F2.1.length)=false:=by simpa using hF
             have hF0:F2.1=[]:=List.eq_nil_of_length_eq_zero (by omega);have Hr5:=hidL (aai Hr6.out hF0);clear hF0 hrf2 HC2
            case' false =>
             obtain⟨w5,h5⟩:=exE V;subst h5;have Hr5:=hidL (show R=iR ((Ba.drop (q+1)).flatMap WB++T2) by rw[Hr6.out];rfl);clear HC2
            all_goals
             clear Hr6;go_wp2;go_roundw
             case rel=>exact⟨q+1,by go_num,by omega,Hr5,hU7⟩
             case measure=>simp[intOf];omega
        ·--[TYPES
         have hdn:Ba.drop q=[]:=List.drop_eq_nil_of_le (by omega);have Hr2:=hidL (Hr3.out (by have:=Hr.out;rw[hdn] at this;exact this));have hqi:¬ (q:Int)<Ba.length:=by omega
         have hBz:=aa hB hBU hB.size;clear hdn Hr;go_wp2;go_roundw
         case rel=>exact⟨j+1,by go_num,by omega,Hr2,hBz⟩
         case measure=>simp[intOf];omega
     ·--[ALL
      have hdn:al.drop j=[]:=List.drop_eq_nil_of_le (by omega);have Hr2:=hidL (Hr0.out (by have:=Hr.out;rw[hdn] at this;exact this));have hji:¬ (j:Int)<al.length:=by omega
      have e9:IntKind.i64.wrap ((k:Int)+1)=(k:Int)+1:=IntWalk.i64_in _ (by omega);clear hdn Hr;go_wp2;go_roundw
      case rel=>exact⟨k+1,by go_num,by omega,Hr2,hBv⟩
      case measure=>simp[intOf];omega
   ·--[END
    have hdn:bl.drop k=[]:=List.drop_eq_nil_of_le (by omega);have hr:R=[]:=by rw[Hr.out,hdn];rfl
    subst hr;have hki:¬ (k:Int)<bl.length:=by omega
    clear hdn Hr;go_wp2;go_ret;exact⟨_,rfl,RSl.dJ,hBw⟩
theorem xu (a b:ByteArray):ltS a b↔a.data.toList<b.data.toList:=by
 unfold ltS;rw[ByteArray.toList_eq,ByteArray.toList_eq,Mc,decide_eq_true_eq];exact Pd _ _
theorem akt (a b:ByteArray):Dh a b<0↔ltS a b:=by rw[xu];exact Pd _ _
theorem aky (a b:ByteArray):Dh a b=0↔a=b:=by
 unfold Dh;rw[Yj];obtain⟨⟨a⟩⟩:=a;obtain⟨⟨b⟩⟩:=b;simp
def iD (rs:List gD):Prop:=rs.Pairwise fun x y=>ltS x.name y.name
theorem vG (x:gD)(rs:List gD)(s:ByteArray):fB (x::rs) s=if ltS x.name s then fB rs s+1 else 0:=by
 unfold fB;rw[List.takeWhile_cons]
 by_cases h:ltS x.name s <;> simp[h]
theorem uH (s:ByteArray):∀ rs:List gD,fB rs s≤rs.length
 | []=>Nat.le_refl _
 | x::rs=>by
  have:=uH s rs;rw[vG,List.length_cons];split <;> omega
theorem Rh (s:ByteArray):∀ {rs:List gD},iD rs→∀ (h:Nat) (hh:h<rs.length),ltS rs[h].name s↔h<fB rs s
 | [],_,h,hh=>by simp at hh
 | x::rs,hs,0,_=>by
  rw[vG]
  by_cases h:ltS x.name s <;> simp[h]
 | x::rs,hs,h+1,hh=>by
  rw[vG];obtain⟨h1,h2⟩:=List.pairwise_cons.1 hs;have hh':h<rs.length:=by simpa using hh
  have ih:=Rh s h2 h hh';show ltS rs[h].name s↔_
  by_cases hx:ltS x.name s
  ·rw[if_pos hx,ih];omega
  ·rw[if_neg hx];refine⟨fun hl=>absurd ?_ hx,fun hl=>by omega⟩;have:=h1 _ (List.getElem_mem hh');rw[xu] at *;exact List.lt_trans this hl
theorem Qs (x:gD)(s:ByteArray)(w:World):Calls prog 54 #[.agg (aN x).toArray,.string s] w (Ret w (O (Dh x.name s))):=by
 obtain⟨xn,xc,xp⟩:=x;dsimp only[aN];obtain⟨z1,z2⟩:=kZ w [.string xn,O xc,O xp] 61;go_enter func54,ntmps54;go_wp2_with fail;refine(Tryz.strings_Compare _ _ _).mono ?_;rintro e w1 ⟨rfl,rfl⟩;go_wp2;go_ret;exact⟨rfl,z2⟩
theorem amL (x:Int)(h0:0≤x)(h1:x<18446744073709551616):IntKind.u64.wrap x=x:=IntWalk.u64_in x ⟨h0,by omega⟩
theorem YT (S:Nat→Prop)(v:Value)(rs:List gD)(s:ByteArray)(w:World)(hr:RSl 3 32 iG S w [v] rs)(hs:iD rs)(hn:rs.length≤1000000) :
  Calls prog 53 #[v,.string s,Value.func (Fn.func 54) #[] #[]] w (Ret w (.tuple #[O (fB rs s),.bool (qJ rs s)])):=by
 obtain⟨A,cap,rfl,-,-⟩:=hr.form;have HR:=hidL hr;obtain⟨P,hP⟩:=exE (fB rs s);have hpl:=uH s rs;have hpi:=Rh s hs;rw[←hP] at hpl hpi ⊢;obtain⟨hb,hhb⟩:=exE (qJ rs s);rw[←hhb];have Hb:Hid (hb=decide (((rs[P]?).map (·.name))=some s)):=by show _=_;rw[hhb,qJ,hP]
 have Hpi:=hidL hpi;clear hr hs hP hpi hhb;go_enter func53,ntmps53;go_wp2_with fail;go_loopw [9,10] (fun a b wr=>∃ i j:Nat,a=O i∧b=O j∧i≤P∧P≤j∧j≤rs.length∧Below w.heap.size w wr) (fun a b _=>(intOf b).toNat-(intOf a).toNat)
 case atStart=>exact⟨0,rs.length,rfl,rfl,Nat.zero_le _,hpl,Nat.le_refl _,Below.refl _ _⟩
 case round =>
  obtain⟨i,j,rfl,rfl,hi,hj,hjl,hB⟩:=hrel
  by_cases hlt:i<j
  ·obtain⟨hh,hhe⟩:=exE ((i+j) / 2);have es:IntKind.i64.wrap ((i:Int)+j)=(i:Int)+j:=IntWalk.i64_in _ (by omega);have eu:IntKind.u64.wrap ((i:Int)+j)=(i:Int)+j:=amL _ (by omega) (by omega);have eh:((i:Int)+j) / 2=(hh:Int):=by omega
   have ei:IntKind.i64.wrap (hh:Int)=(hh:Int):=IntWalk.i64_in _ (by omega);have ev:IntKind.u64.wrap (hh:Int)=(hh:Int):=amL _ (by omega) (by omega);have e7:IntKind.i64.wrap ((hh:Int)+1)=(hh:Int)+1:=IntWalk.i64_in _ (by omega);have hhl:hh<rs.length:=by omega
   have hb2:i≤hh∧hh<j:=by omega
   obtain⟨g,o,rfl,hS,hg⟩:=HR.out.base (by omega);have hc:=(HR.out.flat (enc:=aN) hhl).keep (az.of_below hB) hS;have hpq:=Hpi.out hh hhl;obtain⟨x,hx⟩:=exE (rs[hh]);rw[←hx] at hc hpq;rw[←akt] at hpq;obtain⟨xn,xc,xp⟩:=x;have q0:=hc.a0 rfl;have q1:=hc.at_ 1 rfl;have q2:=hc.at_ 2 rfl;have hgl:g<wr.heap.size:=Nat.lt_of_lt_of_le hg hB.size;have hhi:(hh:Int)<rs.length:=by omega
   obtain⟨cv,hcv⟩:=exE (Dh xn s);dsimp only at hpq;rw[←hcv] at hpq;have hcall:=Qs ⟨xn,xc,xp⟩ s wr;dsimp only[aN] at hcall;rw[←hcv] at hcall;have Hcall:=hidL hcall;have Hpq:=hidL hpq;clear hc hx hhe hcv hcall hpq;go_wp2_with fail;refine Hcall.out.mono ?_;rintro e w1 ⟨rfl,hb1⟩;have hB1:=aa hB hb1 hB.size;clear q0 q1 q2 hB
   by_cases hc0:cv<0
   ·have ec:decide (cv<0)=true:=by simpa using hc0
    have hhP:=Hpq.out.1 hc0;clear hc0;go_wp2;go_roundw
    case rel=>exact⟨hh+1,j,by simp,rfl,hhP,hj,hjl,hB1⟩
    case measure=>simp[intOf];omega
   ·have ec:decide (cv<0)=false:=by simpa using hc0
    have hhP:P≤hh:=by
     have:¬ hh<P:=fun h=>hc0 (Hpq.out.2 h)
     omega
    clear hc0;go_wp2;go_roundw
    case rel=>exact⟨i,hh,rfl,rfl,hi,hhP,by omega,hB1⟩
    case measure=>simp[intOf];omega
  ·obtain rfl:i=P:=by omega
   have hnl:¬ (i:Int)<j:=by omega
   by_cases hil:i<rs.length
   ·obtain⟨g,o,rfl,hS,hg⟩:=HR.out.base (by omega);have hc:=(HR.out.flat (enc:=aN) hil).keep (az.of_below hB) hS;have hbe:=Hb.out;rw[List.getElem?_eq_getElem hil] at hbe;obtain⟨x,hx⟩:=exE (rs[i]);rw[←hx] at hc hbe;obtain⟨xn,xc,xp⟩:=x;have q0:=hc.a0 rfl;have q1:=hc.at_ 1 rfl;have q2:=hc.at_ 2 rfl;have hgl:g<wr.heap.size:=Nat.lt_of_lt_of_le hg hB.size;have hhi:(i:Int)<rs.length:=by omega
    have Hbe:Hid (hb=(Dh xn s==0)):=by
     show _=_;rw[hbe];simp only[Option.map_some,Option.some.injEq];rw[show (Dh xn s==0)=decide (Dh xn s=0) from rfl];exact decide_eq_decide.2 (aky xn s).symm
    have hcall:=Qs ⟨xn,xc,xp⟩ s wr;dsimp only[aN] at hcall;have Hcall:=hidL hcall;clear hc hx hbe hcall;go_wp2_with fail;refine Hcall.out.mono ?_;rintro e w1 ⟨rfl,hb1⟩;have hB1:=aa hB hb1 hB.size;clear q0 q1 q2 hB;go_wp2_with fail;refine bodyPost_ret (results_tmp2 rfl _ _ _) rfl ?_;exact⟨by rw[Hbe.out];rfl,hB1⟩
   ·have hhi:¬ (i:Int)<rs.length:=by omega
    have Hbe:Hid (hb=false):=by
     show _=_;rw[Hb.out,List.getElem?_eq_none (by omega)];rfl
    go_wp2_with fail;refine bodyPost_ret (results_tmp2 rfl _ _ _) rfl ?_;exact⟨by rw[Hbe.out];rfl,hB⟩
def bS (S:Nat→Prop)(row:Option Nat)(base:Nat)(w:World)(g:Nat)(s:cK):Prop :=
 ∃ vc vr,vr.ownBlock=row∧Box w g 71 [vc,vr,O s.acts]∧RSl 2 48 dw S w [vc] s.cs∧Own base 61 3 iG NoT w vr s.rs∧¬ S g∧(∀ k,row=some k→¬ S k)∧(∀ y,S y→y<w.heap.size)∧base≤g
theorem bS.below {S:Nat→Prop}{row:Option Nat}{base:Nat}{w w':World}{g:Nat}{s:cK}(h:bS S row base w g s)(hb:Below w.heap.size w w'):bS S row base w' g s:=by
 obtain⟨vc,vr,h1,h2,h3,h4,h5,h6,h7,h8⟩:=h;exact⟨vc,vr,h1,h2.below hb h2.lt,(RSl.fair dw.fair).below h3 hb,h4.below iG.fair hb,h5,h6,fun y hy=>Nat.lt_of_lt_of_le (h7 y hy) hb.size,h8⟩
theorem FH {S:Nat→Prop}{row:Option Nat}{base:Nat}{w:World}{g:Nat}{s:cK}(name:ByteArray)(h:bS S row base w g s)(hs:iD s.rs)(hn:s.rs.length≤1000) :
  Calls prog 25 #[.pointer (some ⟨g,0,none⟩),.string name] w (Ret w (.tuple #[O (fB s.rs name),.bool (qJ s.rs name)])):=by
 obtain⟨vc,vr,-,h2,-,h4,-⟩:=h;have hr:RSl 3 32 iG (fun _=>True) w [vr] s.rs:=h4.read iG.fair (fun _ _ _=>trivial) (fun _ _=>trivial) (by omega);have hc:=hidL (YT _ vr s.rs name w hr hs (by omega));have c1:=h2.c 1 rfl;have hl:=h2.lt;clear h2 h4 hr hs hn;go_enter func25,ntmps25;go_wp2_with fail;refine hc.out.mono ?_;rintro e w1 ⟨rfl,hb⟩;go_wp2_with fail;refine bodyPost_ret (results_tmp2 rfl _ _ _) rfl ?_;exact⟨rfl,hb⟩
def Bef (S:Nat→Prop)(w:World):Nat→Prop:=fun y=>S y∧y<w.heap.size
theorem Bef.lt {S:Nat→Prop}{w w':World}(h:w.heap.size≤w'.heap.size):∀ g,Bef S w g→g<w'.heap.size:=fun _ hg=>Nat.lt_of_lt_of_le hg.2 h
theorem Fair.bef {α:Type}{R:Rel α}(hR:Fair R){S:Nat→Prop}{w:World}{cs:List Value}{x:α}(h:R S w cs x):R (Bef S w) w cs x:=hR.mono h fun _ a b=>⟨a,b⟩
theorem Own.made {α:Type}{R:Rel α}{base e sz:Nat}{T:Nat→Prop}{w:World}(hb:base≤w.heap.size)(hT:¬ T w.heap.size):Own base e sz R T (w.alloc (.cells #[] e)) (.slice (some ⟨w.heap.size,0,none⟩) 0 0) ([]:List α) :=
 ⟨[],World.ownsRow_made w #[] 0 hb (Nat.zero_le _) (by simp),rfl,fun k h=>by
  have:w.heap.size=k:=by simpa[Value.ownBlock] using h
  rw[←this];exact hT,fun k x cs h=>by simp at h⟩
theorem aQ.ones':pE aQ:=by
 intro S w cs x h;have h':cs=[O x]:=h;subst h';exact gI.bK rfl
theorem iG.ones:pE iG:=by
 intro S w cs x h;have h':cs=aN x:=h;subst h';exact gI.bK rfl
theorem dw.ones:pE dw:=by
 intro S w cs x h;obtain⟨A1,c1,A2,c2,rfl,-,-⟩:=h.parts;exact gI.bK rfl
theorem aH.ones':pE aH:=by
 intro S w cs x h;have h':cs=aI x:=h;subst h';exact gI.bK rfl
theorem aO.ones':pE aO:=by
 intro S w cs x h;have h':cs=dD x:=h;subst h';exact gI.bK rfl
theorem aeZ:dK prog 58 61 3 32:=dK.mk (z:=.agg #[.string .empty,O 0,O 0]) underlying58 (by decide) (by decide) (by kernel_rfl) rfl
theorem GX:dK prog 27 44 2 48:=dK.mk (z:=.agg #[Z0,Z0]) underlying27 (by decide) (by decide) (by kernel_rfl) rfl
theorem adR:dK prog 50 55 5 56:=dK.mk (z:=.agg (FF 0 .empty .empty 0 0).toArray) underlying50 (by decide) (by decide) (by kernel_rfl) rfl
theorem afu:dK prog 51 57 2 24:=dK.mk (z:=.agg #[.string .empty,O 0]) underlying51 (by decide) (by decide) (by kernel_rfl) rfl
theorem RSl.aiP {α:Type}{sz by_ n cap:Nat}{R:Rel α}{S:Nat→Prop}{w:World}{xs:List α}(h:RSl sz by_ R S w [.slice none n cap] xs):xs=[]:=by
 cases xs with
 | nil=>rfl
 | cons x l=>obtain⟨g,o,e,_⟩:=h.base (by simp);cases e
theorem cloneInt_any (S:Nat→Prop)(v:Value)(l:List Int)(w:World)(h:RSl 1 8 aQ S w [v] l) :
  Calls prog 21 #[v] w (fun e w'=>∃ v',e=.returned v'∧Own w.heap.size 3 1 aQ (Bef S w) w' v' l∧Below w.heap.size w w'):=by
 obtain⟨A,cap,rfl,hlc,hlb⟩:=h.form;have q0:∀ (w:World) (a:Option Addr) (n c n' c':Nat),(binOp .eql 42 (.slice a n c) (.slice none n' c')).run prog w=.ok (.bool a.isNone) w:=fun w a n c n' c'=>Lib.run_eql_slice_nil w _ _ a n c n' c' underlying42
 cases A with
 | none =>
  obtain rfl:=h.aiP;go_enter func21,ntmps21;go_wp2;go_ret;exact⟨_,rfl,Own.dJ _ _ _ _ _ _,Below.refl _ _⟩
 | some a =>
  have H:=hidL ((aQ.fair |> RSl.fair).keep ((RSl.fair aQ.fair).bef h) (az.alloc (Bef S w) w (.cells #[] 3)));clear h;go_enter func21,ntmps21;go_wp2_with (at_builtin;go_must (refine bv _ rfl (.tmp 5) (.tmp 6) rfl qh aQ.fair rfl rfl (Own.made (Nat.le_refl _) (fun h=>Nat.lt_irrefl _ h.2)) (H.out.src (by decide) aQ.ones') (Bef.lt (by simp)) ?_ ?_ ?_))
  ·simp;omega
  ·simp
  intro v' w' ho hg hv;have hB:=((Below.here w).alloc (Nat.le_refl _) (.cells #[] 3)).grown hg (by simp) (fun k e=>by simp[Value.ownBlock] at e;omega);go_wp2;go_ret;exact⟨_,rfl,by simpa using ho,hB⟩
theorem cloneRef_any (S:Nat→Prop)(v:Value)(l:List gD)(w:World)(h:RSl 3 32 iG S w [v] l) :
  Calls prog 41 #[v] w (fun e w'=>∃ v',e=.returned v'∧Own w.heap.size 61 3 iG (Bef S w) w' v' l∧Below w.heap.size w w'):=by
 obtain⟨A,cap,rfl,hlc,hlb⟩:=h.form;have q0:∀ (w:World) (a:Option Addr) (n c n' c':Nat),(binOp .eql 58 (.slice a n c) (.slice none n' c')).run prog w=.ok (.bool a.isNone) w:=fun w a n c n' c'=>Lib.run_eql_slice_nil w _ _ a n c n' c' underlying58
 cases A with
 | none =>
  obtain rfl:=h.aiP;go_enter func41,ntmps41;go_wp2;go_ret;exact⟨_,rfl,Own.dJ _ _ _ _ _ _,Below.refl _ _⟩
 | some a =>
  have H:=hidL ((iG.fair |> RSl.fair).keep ((RSl.fair iG.fair).bef h) (az.alloc (Bef S w) w (.cells #[] 61)));clear h;go_enter func41,ntmps41;go_wp2_with (at_builtin;go_must (refine bv _ rfl (.tmp 5) (.tmp 6) rfl aeZ iG.fair rfl rfl (Own.made (Nat.le_refl _) (fun h=>Nat.lt_irrefl _ h.2)) (H.out.src (by decide) iG.ones) (Bef.lt (by simp)) ?_ ?_ ?_))
  ·simp;omega
  ·simp
  intro v' w' ho hg hv;have hB:=((Below.here w).alloc (Nat.le_refl _) (.cells #[] 61)).grown hg (by simp) (fun k e=>by simp[Value.ownBlock] at e;omega);go_wp2;go_ret;exact⟨_,rfl,by simpa using ho,hB⟩
theorem cloneCommit_any (S:Nat→Prop)(v:Value)(l:List fD)(w:World)(h:RSl 2 48 dw S w [v] l) :
  Calls prog 91 #[v] w (fun e w'=>∃ v',e=.returned v'∧Own w.heap.size 44 2 dw (Bef S w) w' v' l∧Below w.heap.size w w'):=by
 obtain⟨A,cap,rfl,hlc,hlb⟩:=h.form;have q0:∀ (w:World) (a:Option Addr) (n c n' c':Nat),(binOp .eql 27 (.slice a n c) (.slice none n' c')).run prog w=.ok (.bool a.isNone) w:=fun w a n c n' c'=>Lib.run_eql_slice_nil w _ _ a n c n' c' underlying27
 cases A with
 | none =>
  obtain rfl:=h.aiP;go_enter func91,ntmps91;go_wp2;go_ret;exact⟨_,rfl,Own.dJ _ _ _ _ _ _,Below.refl _ _⟩
 | some a =>
  have H:=hidL ((dw.fair |> RSl.fair).keep ((RSl.fair dw.fair).bef h) (az.alloc (Bef S w) w (.cells #[] 44)));clear h;go_enter func91,ntmps91;go_wp2_with (at_builtin;go_must (refine bv _ rfl (.tmp 5) (.tmp 6) rfl GX dw.fair rfl rfl (Own.made (Nat.le_refl _) (fun h=>Nat.lt_irrefl _ h.2)) (H.out.src (by decide) dw.ones) (Bef.lt (by simp)) ?_ ?_ ?_))
  ·simp;omega
  ·simp
  intro v' w' ho hg hv;have hB:=((Below.here w).alloc (Nat.le_refl _) (.cells #[] 44)).grown hg (by simp) (fun k e=>by simp[Value.ownBlock] at e;omega);go_wp2;go_ret;exact⟨_,rfl,by simpa using ho,hB⟩
theorem cloneField_any (S:Nat→Prop)(v:Value)(l:List ay)(w:World)(h:RSl 5 56 aH S w [v] l) :
  Calls prog 47 #[v] w (fun e w'=>∃ v',e=.returned v'∧Own w.heap.size 55 5 aH (Bef S w) w' v' l∧Below w.heap.size w w'):=by
 obtain⟨A,cap,rfl,hlc,hlb⟩:=h.form;have q0:∀ (w:World) (a:Option Addr) (n c n' c':Nat),(binOp .eql 50 (.slice a n c) (.slice none n' c')).run prog w=.ok (.bool a.isNone) w:=fun w a n c n' c'=>Lib.run_eql_slice_nil w _ _ a n c n' c' underlying50
 cases A with
 | none =>
  obtain rfl:=h.aiP;go_enter func47,ntmps47;go_wp2;go_ret;exact⟨_,rfl,Own.dJ _ _ _ _ _ _,Below.refl _ _⟩
 | some a =>
  have H:=hidL ((aH.fair |> RSl.fair).keep ((RSl.fair aH.fair).bef h) (az.alloc (Bef S w) w (.cells #[] 55)));clear h;go_enter func47,ntmps47;go_wp2_with (at_builtin;go_must (refine bv _ rfl (.tmp 5) (.tmp 6) rfl adR aH.fair rfl rfl (Own.made (Nat.le_refl _) (fun h=>Nat.lt_irrefl _ h.2)) (H.out.src (by decide) aH.ones') (Bef.lt (by simp)) ?_ ?_ ?_))
  ·simp;omega
  ·simp
  intro v' w' ho hg hv;have hB:=((Below.here w).alloc (Nat.le_refl _) (.cells #[] 55)).grown hg (by simp) (fun k e=>by simp[Value.ownBlock] at e;omega);go_wp2;go_ret;exact⟨_,rfl,by simpa using ho,hB⟩
theorem cloneItem_any (S:Nat→Prop)(v:Value)(l:List dC)(w:World)(h:RSl 2 24 aO S w [v] l) :
  Calls prog 48 #[v] w (fun e w'=>∃ v',e=.returned v'∧Own w.heap.size 57 2 aO (Bef S w) w' v' l∧Below w.heap.size w w'):=by
 obtain⟨A,cap,rfl,hlc,hlb⟩:=h.form;have q0:∀ (w:World) (a:Option Addr) (n c n' c':Nat),(binOp .eql 51 (.slice a n c) (.slice none n' c')).run prog w=.ok (.bool a.isNone) w:=fun w a n c n' c'=>Lib.run_eql_slice_nil w _ _ a n c n' c' underlying51
 cases A with
 | none =>
  obtain rfl:=h.aiP;go_enter func48,ntmps48;go_wp2;go_ret;exact⟨_,rfl,Own.dJ _ _ _ _ _ _,Below.refl _ _⟩
 | some a =>
  have H:=hidL ((aO.fair |> RSl.fair).keep ((RSl.fair aO.fair).bef h) (az.alloc (Bef S w) w (.cells #[] 57)));clear h;go_enter func48,ntmps48;go_wp2_with (at_builtin;go_must (refine bv _ rfl (.tmp 5) (.tmp 6) rfl afu aO.fair rfl rfl (Own.made (Nat.le_refl _) (fun h=>Nat.lt_irrefl _ h.2)) (H.out.src (by decide) aO.ones') (Bef.lt (by simp)) ?_ ?_ ?_))
  ·simp;omega
  ·simp
  intro v' w' ho hg hv;have hB:=((Below.here w).alloc (Nat.le_refl _) (.cells #[] 57)).grown hg (by simp) (fun k e=>by simp[Value.ownBlock] at e;omega);go_wp2;go_ret;exact⟨_,rfl,by simpa using ho,hB⟩
open Go.Sort
theorem Zt (S:Nat→Prop)(v:Value)(l:List Int)(B:Nat)(x:Int)(W:World)(hc:LL W B 0 v)(hr:RSl 1 8 aQ S W [v] l)(hB:B<W.heap.size) :
  FnGives prog 126 #[.pointer (some ⟨B,0,none⟩)] #[O x] (.bool (!dV l x)) W:=by
 show Calls prog 126 #[O x,.pointer (some ⟨B,0,none⟩)] W _;have H:=hidL (zU S v l x W hr);obtain⟨A,cap,rfl,-,-⟩:=hr.form;clear hr;go_enter func126,ntmps126;go_wp2_with fail;refine H.out.mono ?_;rintro e w1 ⟨rfl,rfl⟩;go_wp2;go_ret;exact⟨rfl,0,rfl⟩
theorem DK {l:List fD}{n:Int}(h0:0≤n)(h1:n<l.length):n∈dZ l n:=by
 unfold dZ;rw[if_neg (by omega),List.mem_reverse,lS,if_pos]
 ·simp;omega
 ·have:n.toNat<l.length:=by omega
  simp[this]
theorem ahG (S:Nat→Prop)(base B:Nat)(v v1:Value)(l bl:List Int)(w:World)(ho:Own base 3 1 aQ NoT w v l)(h0:0<l.length)(hl:l.length≤1000000)(hb:base≤w.heap.size)(hB:B<base)
  (hc:w.cell? ⟨B,0,none⟩=some v1) (hr:RSl 1 8 aQ S w [v1] bl) (hS:∀ y,S y→y<base) :
  Calls prog 125 #[v,.func (.func 126) #[] #[.pointer (some ⟨B,0,none⟩)]] w (fun e w'=>∃ g cap,e=.returned (.slice (some ⟨g,0,none⟩) (l.filter (dV bl)).length cap) ∧
   (∀ j (h:j<(l.filter (dV bl)).length),w'.cell? ⟨g,j,none⟩=some (O (l.filter (dV bl))[j]))∧g<w'.heap.size∧Below base w w'):=by
 obtain⟨g,hv,hbg,hgl⟩:∃ g,v.ownBlock=some g∧base≤g∧g<w.heap.size:=by
  obtain⟨css,h1,_⟩:=ho;rcases h1.2 with ⟨_,hn⟩ | ⟨g,cap,cur,rfl,hg,hh,hnc,_⟩
  ·omega
  ·exact⟨g,rfl,hg,(Array.getElem?_eq_some_iff.1 hh).1⟩
 obtain⟨A,cap,rfl,hcap⟩:=ho.form;obtain⟨g',rfl,-,-⟩:=ho.qR h0;obtain rfl:g'=g:=by simpa[Value.ownBlock] using hv
 have hH:Holds (Value.int .i64) w g' 0 l.toArray:=Own.holds ho rfl (fun k x y cs hx hy hr=>by
  have hr':cs=[O x]:=hr;rw[hx] at hy;injection hy with hy
  rw[hr',←hy])
 have hBw:B<w.heap.size:=by omega
 have eg:∀ args w,(callFunc 126 args).run prog w=.ok (.enter 126 args) w:=enters_of func126 (by kernel_rfl) rfl;have hp:PredAt prog 126 #[.pointer (some ⟨B,0,none⟩)] (Value.int .i64) (fun x => !dV bl x) w:=fun W x h =>
  Zt S v1 bl B x W ((h.cell (p:=⟨B,0,none⟩) hBw).trans hc) ((RSl.fair aQ.fair).below hr h) (Nat.lt_of_lt_of_le hBw h.size)
 have hpo:PredOver prog 126 #[.pointer (some ⟨B,0,none⟩)] (Value.int .i64) (fun x => !dV bl x) g' 0 l.toArray.size w:=fun n os dk x _=>by
  have hg:=sF (Value.int .i64) w n g' 0 dk os;refine Zt S v1 bl B x _ ?_ ((RSl.fair aQ.fair).keep hr (az.bH hg (fun k e=>by injection e with e;subst e;exact fun h=>by have:=hS _ h;omega))) (Nat.lt_of_lt_of_le hBw hg.size);have:(grow (putRow (Value.int .i64) (Sort.ahead w n) g' 0 dk) os).heap[B]? = w.heap[B]? := hg.block B hBw (fun e=>by injection e with e;omega);exact(World.cell?_of_block (a:=⟨B,0,none⟩) this).trans hc
 have hcon:=AnyE.slices_DeleteFunc Tryz.delInts (Value.int .i64) (fun _=>rfl) (fun x => !dV bl x) 126 #[.pointer (some ⟨B,0,none⟩)] eg 0 zeroValue3 g' 0 cap l.toArray w hp hpo hH (by simp;omega) (by simpa using hcap);change Calls prog 125 _ _ _ at hcon;have ef:(l.toArray.toList.filter fun x => !(!dV bl x))=l.filter (dV bl):=by simp
 rw[ef] at hcon;have hle:(l.filter (dV bl)).length≤l.length:=List.length_filter_le _ _;simp only[List.size_toArray] at hcon;refine hcon.mono ?_;rintro e w' ⟨rfl,q,rfl⟩;obtain⟨zs,hzs⟩:=exE (l.filter (dV bl)++List.replicate (l.length-(l.filter (dV bl)).length) (0:Int));have hzl:zs.length=l.length:=by rw[hzs];simp;omega
 have hgr:=sF (Value.int .i64) w q g' 0 zs.toArray #[];have hcl:=EY (n:=q) (os:=#[]) hH hgl hzl;have e0:grow (putRow (Value.int .i64) (Sort.ahead w q) g' 0 zs.toArray) #[]=putRow (Value.int .i64) (Sort.ahead w q) g' 0 zs.toArray:=by unfold grow;rw[Array.append_empty]
 rw[e0] at hgr hcl;rw[←hzs];refine⟨g',cap,rfl,fun j h=>?_,Nat.lt_of_lt_of_le hgl hgr.size,(Below.refl _ _).grown hgr hb (fun k e=>by injection e with e;omega)⟩;rw[hcl j (by omega)]
 congr 2
 simp only[hzs];rw[List.getElem_append_left h]
theorem aiz (S:Nat→Prop)(v:Value)(l:List fD)(a b:Int)(w:World)(hl:RSl 2 48 dw S w [v] l)(hn:l.length≤1000)(ha:0≤a)(ha':a<l.length) :
  Calls prog 95 #[v,O a,O b] w (Ret w (O (xz l a b))):=by
 obtain⟨A,cap,rfl,-,-⟩:=hl.form;obtain⟨R,hR⟩:=exE (xz l a b);rw[←hR];have HL:=hidL hl;obtain⟨al,hal⟩:=exE (dZ l a);obtain⟨bl,hbl⟩:=exE (dZ l b);have Hr:Hid (R=((al.filter (dV bl)).getLast?).getD (-1)):=by show _=_;rw[hR,xz,hal,hbl]
 have h0:0<al.length:=by rw[hal];exact List.length_pos_of_mem (DK ha ha')
 have hal2:al.length≤1000:=by rw[hal];exact Nat.le_trans (IQ l a) hn
 have hc1:=xm S _ l b w hl (by omega);rw[←hbl] at hc1;have Hc1:=hidL hc1;have hc2:=hidL (fun W (h:Below w.heap.size w W)=>xm S _ l a W ((RSl.fair dw.fair).below hl h) (by omega));rw[←hal] at hc2;clear hl hR hal hbl hc1;go_enter func95,ntmps95;go_wp2_with fail;refine Hc1.out.mono ?_;rintro e w1 ⟨v1,rfl,-,hr1,hb1⟩;have hX:=Box.new w1 42 [v1];have hB2:=hb1.alloc hb1.size (.cells [v1].toArray 42);have hr2:=(RSl.fair aQ.fair).keep ((RSl.fair aQ.fair).mono hr1 (T:=fun y=>y<w1.heap.size) (fun y _ h=>h)) (az.alloc _ w1 (.cells [v1].toArray 42));have Hr2:=hidL hr2;obtain⟨B1,c1,rfl,-,-⟩:=hr1.form;clear hr1 hr2;go_wp2_with fail;refine(hc2.out _ hB2).mono ?_;rintro e w3 ⟨v2,rfl,ho2,-,hb3⟩;have hB3:=aa hB2 hb3 hB2.size;have hX3:=hX.below hb3 hX.lt;have hd:=hidL (ahG _ _ w1.heap.size v2 _ al bl w3 ho2 h0 (by omega) hb3.size hX.lt (hX3.cell 0) ((RSl.fair aQ.fair).below Hr2.out hb3) (fun y h=>Nat.lt_trans h hX.lt));clear ho2 hX hX3 hb3 hc2 Hc1 Hr2;go_wp2_with fail;refine hd.out.mono ?_;rintro e w4 ⟨g,c4,rfl,hcl,hgl,hb4⟩;have hB4:=hB3.trans (hb4.mono (by have:=hB2.size;omega));obtain⟨F,hF⟩:=exE (al.filter (dV bl));rw[←hF] at hcl Hr ⊢;have hFl:F.length≤1000:=by rw[hF];exact Nat.le_trans (List.length_filter_le _ _) hal2
 clear hF hd hb4 hB3 hB2
 by_cases hz:F.length=0
 ·have hz2:((F.length:Int)==0)=true:=by simp[hz]
  have hr:R = -1:=by rw[Hr.out,List.eq_nil_of_length_eq_zero hz];rfl
  subst hr;clear hcl;go_wp2;go_ret;exact⟨rfl,hB4⟩
 ·have hz2:((F.length:Int)==0)=false:=by simpa using hz
  have e1:IntKind.i64.wrap ((F.length:Int)-1)=((F.length-1:Nat):Int):=by rw[show (F.length:Int)-1=((F.length-1:Nat):Int) by omega];exact IntWalk.i64_in _ (by omega)
  have c0:=hcl (F.length-1) (by omega);have hr:R=F[F.length-1]:=by rw[Hr.out,List.getLast?_eq_getElem?,List.getElem?_eq_getElem (by omega)];rfl
  rw[←hr] at c0;obtain⟨m,hm⟩:=exE (F.length-1);rw[←hm] at c0 e1;have hml:(m:Int)<F.length:=by omega
  clear hcl hr hm;go_wp2;go_ret;exact⟨rfl,hB4⟩
end
section
open Go.Proofs.Tryz
open Go.RowKit
section
variable {P:Program}{w:World}{g o:Nat}{t:TypeId}{cur cs:List Value}
theorem Box.row (h:Box w g t cur)(cs:List Value):Box (w.setRow g cs.toArray) g t cs:=setRow_heap w g _ _ t _ h
theorem nC (w:World)(g:Nat)(cs:Array Value):w.grownBy (w.setRow g cs) (some g):=⟨rfl,rfl,rfl,by simp[World.setRow],fun k _ hk=>setRow_other w g k _ (fun e=>hk (by rw[e]))⟩
theorem _root_.Go.World.grownBy.Ns {a b:World}(h:a.grownBy b none)(row:Option Nat):a.grownBy b row:=⟨h.os,h.tape,h.output,h.size,fun k hk _=>h.block k hk (by simp)⟩
theorem Cc {dT sT ty elem sz dLen dCap sLen sCap k:Nat}{a:Addr}(hu:P.underlying dT=some (.slice elem))(hs:(P.info? elem).map (·.size)=some sz)(hg:Box w g t cur)(hk:k=Nat.min sLen dLen)(hn:cs.length=k*sz)
  (hsrc:∀ j v,cs[j]? = some v→w.cell? (a.add j)=some v) (hfit:o+cs.length≤cur.length) (h1:∀ v∈cs,v.oneCell'=true) :
  (Builtin.copy_ #[dT,sT] ty #[.slice (some ⟨g,o,none⟩) dLen dCap,.slice (some a) sLen sCap]).run P w=.ok (goInt k) (w.setRow g (cur.take o++cs++cur.drop (o+cs.length)).toArray):=by
 have hl:=run_loadCells_list (P:=P) w a cs hsrc;have hst:=run_storeCells_at P g o t cs 0 cur.toArray w hg (by simpa using hfit) h1;cases hq:P.info? elem with
 | none=>simp[hq] at hs
 | some i =>
  have hi:i.size=sz:=by simpa[hq] using hs
  rw[hn] at hl;simp[Builtin.copy_,run_underlying hu,Builtin.lenOf,Builtin.firstCells,sizeOf,typeInfo,hq,hi,←hk,hl,hst]
end
theorem EM:∀ rs:List gD,((rs.map aN).flatten).length=rs.length*3
 | []=>rfl
 | r::rs=>by rw[List.map_cons,List.flatten_cons,List.length_append,EM rs];simp[aN];omega
theorem KP (rs:List gD):∀ v∈(rs.map aN).flatten,v.oneCell'=true:=by
 intro v hv;obtain⟨c,hc,hv⟩:=List.mem_flatten.1 hv;obtain⟨r,-,rfl⟩:=List.mem_map.1 hc;simp only[aN,List.mem_cons,List.not_mem_nil,or_false] at hv;rcases hv with rfl | rfl | rfl <;> rfl
theorem LV (rs:List gD)(i:Nat):((rs.take i).map aN).flatten=((rs.map aN).flatten).take (i*3):=by
 induction rs generalizing i with
 | nil=>simp
 | cons r rs ih =>
  cases i with
  | zero=>simp
  | succ i =>
   rw[List.take_succ_cons,List.map_cons,List.flatten_cons,ih,List.map_cons,List.flatten_cons,List.take_append,List.take_of_length_le (l:=aN r) (by simp[aN];omega)]
   congr 2
   simp[aN];omega
theorem KI (rs:List gD)(i:Nat):((rs.drop i).map aN).flatten=((rs.map aN).flatten).drop (i*3):=by
 induction rs generalizing i with
 | nil=>simp
 | cons r rs ih =>
  cases i with
  | zero=>simp
  | succ i =>
   rw[List.drop_succ_cons,ih,List.map_cons,List.flatten_cons,List.drop_append,List.drop_of_length_le (l:=aN r) (by simp[aN];omega),List.nil_append]
   congr 1
   simp[aN];omega
theorem Own.refs {base:Nat}{w:World}{v:Value}{rs:List gD}(h:Own base 61 3 iG NoT w v rs) :
  (v=Z0∧rs=[])∨∃ g cap cur,v=.slice (some ⟨g,0,none⟩) rs.length cap∧base≤g∧Box w g 61 cur∧rs.length≤cap∧cap≤maxLen∧cur.length=cap*3∧cur.take (rs.length*3)=(rs.map aN).flatten:=by
 obtain⟨css,h1,h2,h3,h4⟩:=h;have hcs:css=rs.map aN:=by
  apply List.ext_getElem?;intro k;rw[List.getElem?_map]
  by_cases hk:k<rs.length
  ·have:=(h4 k _ _ (List.getElem?_eq_getElem hk) (List.getElem?_eq_getElem (by omega))).2;rw[List.getElem?_eq_getElem hk,List.getElem?_eq_getElem (by omega)];exact congrArg some this
  ·rw[List.getElem?_eq_none (by omega),List.getElem?_eq_none (by omega)];rfl
 rcases h1.2 with ⟨rfl,hn⟩ | ⟨g,cap,cur,rfl,hg,hh,hnc,hcm,hcz,htk⟩
 ·exact .inl ⟨rfl,List.eq_nil_of_length_eq_zero hn⟩
 ·refine .inr ⟨g,cap,cur.toList,rfl,hg,?_,hnc,hcm,by simpa using hcz,by rw[htk,hcs]⟩;show _=some (Obj.cells cur.toList.toArray _ _);rw[hh]
theorem Own.Pe {base g cap:Nat}{w:World}{rs:List gD}{cur:List Value}(hg:base≤g)(hh:Box w g 61 cur)(hc:rs.length≤cap)(hm:cap≤maxLen)(hz:cur.length=cap*3)(ht:cur.take (rs.length*3)=(rs.map aN).flatten) :
  Own base 61 3 iG NoT w (.slice (some ⟨g,0,none⟩) rs.length cap) rs :=
 ⟨rs.map aN,⟨EM rs,.inr ⟨g,cap,cur.toArray,rfl,hg,hh,hc,hm,by simpa using hz,ht⟩⟩,by simp,fun _ _ h=>h,fun k x c hx hc=>by
  rw[List.getElem?_map,hx] at hc;injection hc with hc
  subst hc;exact⟨rfl,rfl⟩⟩
def Kt (base:Nat)(w:World)(v:Value)(rs:List gD)(e:Ending)(w':World):Prop :=
 ∃ v',e=.returned v'∧Own base 61 3 iG NoT w' v' rs∧w.grownBy w' v.ownBlock∧(v'.ownBlock=v.ownBlock∨∀ k,v'.ownBlock=some k→w.heap.size≤k)
theorem IV {rs:List gD}{i:Nat}{x:gD}(h:i≤rs.length):(eY rs i x).length=rs.length+1:=by unfold eY;simp;omega
theorem acr (base gx:Nat)(v:Value)(rs:List gD)(x:gD)(w:World)(ho:Own base 61 3 iG NoT w v rs)(hn:rs.length≤1000)(hx:Box w gx 61 (aN x))(hb:base≤w.heap.size) :
  Calls prog 51 #[v,O rs.length,.slice (some ⟨gx,0,none⟩) 1 1] w (Kt base w v (eY rs rs.length x)):=by
 obtain⟨A,cap,rfl,hc⟩:=ho.form;have hcm:cap≤maxLen:=by
  rcases ho.refs with ⟨h,-⟩ | ⟨_,_,_,h,_,_,_,hm,_⟩
  ·injection h with _ _ h;omega
  ·injection h with _ _ h;omega
 have Ho:=hidL ho;have Hx:=hidL hx;clear ho hx;go_enter func51,ntmps51;go_wp2_with (at_builtin;go_must (refine bv _ rfl (.tmp 23) (.tmp 24) rfl aeZ iG.fair rfl rfl Ho.out (Src.one (es:=aN x) (y:=x) rfl (gI.bK rfl) rfl Hx.out.lies) (NoT.lt _) ?_ ?_ ?_))
 all_goals first
  | exact hb
  | (simp only[List.length_cons,List.length_nil];omega)
  | skip
 all_goals
  intro v' w' ho hg hv;have hg':w.grownBy w' (Value.slice A rs.length cap).ownBlock:=by cases A <;> exact hg
  have hv':v'.ownBlock=(Value.slice A rs.length cap).ownBlock∨∀ k,v'.ownBlock=some k→w.heap.size≤k:=by
   rcases hv with hv | hv
   ·left;cases A <;> exact hv
   ·right;intro k hk;rw[hv] at hk;injection hk with hk;omega
  have ho':Own base 61 3 iG NoT w' v' (eY rs rs.length x):=by rw[show eY rs rs.length x=rs++[x] by simp[eY]];exact ho
  clear ho hg hv;go_wp2;go_ret;exact⟨_,rfl,ho',hg',hv'⟩
theorem Rt:(prog.info? 61).map (fun i=>(i.zero,i.size,i.bytes))=some (some (.agg #[.string .empty,O 0,O 0]),3,32):=by kernel_rfl
theorem Zm (base g i gx:Nat)(rs:List gD)(x:gD)(cur:List Value)(w:World)(hg:Box w g 61 cur)(hz:cur.length=rs.length*3)(ht:cur.take (rs.length*3)=(rs.map aN).flatten)
  (hi:i<rs.length) (hn:rs.length≤1000) (hx:Box w gx 61 (aN x)) (hb:base≤w.heap.size) :
  Calls prog 51 #[.slice (some ⟨g,0,none⟩) rs.length rs.length,O i,.slice (some ⟨gx,0,none⟩) 1 1] w (Kt base w (.slice (some ⟨g,0,none⟩) rs.length rs.length) (eY rs i x)):=by
 obtain⟨n,hne⟩:=exE rs.length;obtain⟨cs,hcs⟩:=exE ((rs.map aN).flatten);have hcl:cs.length=n*3:=by rw[hcs,hne];exact EM rs
 rw[←hne] at hi hn hz ht ⊢;rw[←hcs] at ht;have hcur:cur=cs:=by rw[←ht,List.take_of_length_le (by omega)]
 subst hcur;have h1c:∀ v∈cur,v.oneCell'=true:=by rw[hcs];exact KP rs
 obtain⟨i0,hi0,hz0,hzs,hzb⟩:=info_parts Rt;obtain⟨z,hzz⟩:=exE (.agg #[.string .empty,O 0,O 0]:Value);have hzc:z.cells.size=3:=by rw[hzz];rfl
 rw[←hzz] at hz0;have hsz:(prog.info? 61).map (·.size)=some 3:=by rw[hi0];simp[hzs]
 obtain⟨G,hG⟩:=exE (grownCap w (n+1) n 61);have hGn:n+1≤G:=by rw[hG];exact grownCap_ge w _ _ _
 have hGm:G≤maxLen:=by rw[hG];exact grownCap_le_maxLen w (n+1) n 61 (by unfold maxLen;omega)
 obtain⟨ROW,hROW⟩:=exE (cur.take (i*3)++(Builtin.zeroCells z.cells (n+1-i)).toList++(Builtin.zeroCells z.cells (G-(n+1))).toList:List Value);have hRl:ROW.length=G*3:=by
  rw[hROW];simp only[List.length_append,List.length_take,Array.length_toList,size_zeroCells,hzc,hcl];omega
 have hRt:ROW.take (i*3)=cur.take (i*3):=by
  rw[hROW,List.append_assoc,List.take_append_of_le_length (by rw[List.length_take];omega),List.take_take,Nat.min_self]
 have hold:(Builtin.firstCells i0.size i (.slice (some ⟨g,0,none⟩) i n)).run prog w.drew=.ok (cur.take (i*3)).toArray w.drew:=by
  rw[hzs];exact run_firstCells_some w.drew 3 i ⟨g,0,none⟩ i n (cur.take (i*3)) (by rw[List.length_take];omega) (fun j v hj=>by
   rw[Addr.add_lit,Nat.zero_add];rw[List.getElem?_take] at hj;split at hj
   ·rw[←hj];exact hg.drew.cell j
   ·cases hj)
 have hrz:∀ ty,(Builtin.append_ #[58,3] ty #[.slice (some ⟨g,0,none⟩) i n,O ((n:Int)+1-(i:Int))]).run prog w =
   .ok (.slice (some ⟨w.heap.size,0,none⟩) (n+1) G) (w.drew.alloc (.cells ROW.toArray 61)):=fun ty=>by
  have h:=Lib.run_append_grow_zeros w 58 3 ty 61 i0 z .i64 .i64 underlying58 underlying3 hi0 hz0 (some ⟨g,0,none⟩) i n (cur.take (i*3)) hold (n+1-i) (by omega) (by omega) (by omega) (by omega) (by rw[hzb];omega) (by rw[hzb,show i+(n+1-i)=n+1 by omega];exact growslice_fits (by omega) (by omega));rw[show i+(n+1-i)=n+1 by omega,←hG] at h;have e:(cur.take (i*3)).toArray++Builtin.zeroCells z.cells (n+1-i)++Builtin.zeroCells z.cells (G-(n+1))=ROW.toArray:=by rw[hROW];exact Array.ext' (by simp)
  rw[show (n:Int)+1-(i:Int)=((n+1-i:Nat):Int) by omega,←e];exact h
 have hN1:Box (w.alloc (.cells ROW.toArray 61)).drew w.heap.size 61 ROW:=(Box.new w _ _).drew;have hx1:Box (w.alloc (.cells ROW.toArray 61)).drew gx 61 (aN x):=(hx.alloc _).drew;have hg1:Box (w.alloc (.cells ROW.toArray 61)).drew g 61 cur:=(hg.alloc _).drew;have hgr1:w.grownBy (w.alloc (.cells ROW.toArray 61)).drew none:=qx (jC (aK (Below.refl _ _) none) _);have hgN:g≠w.heap.size:=Nat.ne_of_lt hg.lt;obtain⟨row1,hrow1⟩:=exE (ROW.take (i*3)++aN x++ROW.drop (i*3+(aN x).length));have hxl:(aN x).length=3:=rfl;have hxo:∀ v∈aN x,v.oneCell'=true:=gI.bK rfl;have hr1l:row1.length=G*3:=by
  rw[hrow1];simp only[List.length_append,List.length_take,List.length_drop,hxl];omega
 have hcpA:∀ (W:World),Box W w.heap.size 61 ROW→Box W gx 61 (aN x)→∀ ty dc,(Builtin.copy_ #[58,58] ty #[.slice (some ⟨w.heap.size,i*3,none⟩) (n+1-i) dc,.slice (some ⟨gx,0,none⟩) 1 1]).run prog W=.ok (goInt 1) (W.setRow w.heap.size row1.toArray):=fun W hN hX ty dc=>by
  rw[hrow1];exact Cc underlying58 hsz hN (by simp only[Nat.min_def];split <;> omega) (by rw[hxl]) (fun j v hj=>by rw[Addr.add_lit,Nat.zero_add,hX.cell];exact hj) (by rw[hxl];omega) hxo
 obtain⟨row2,hrow2⟩:=exE (row1.take ((i+1)*3)++cur.drop (i*3)++row1.drop ((i+1)*3+(cur.drop (i*3)).length));have hdl:(cur.drop (i*3)).length=(n-i)*3:=by rw[List.length_drop,hcl];omega
 have hr2l:row2.length=G*3:=by
  rw[hrow2];simp only[List.length_append,List.length_take,List.length_drop];omega
 have hcpB:∀ (W:World),Box W w.heap.size 61 row1→Box W g 61 cur→∀ ty dc,(Builtin.copy_ #[58,58] ty #[.slice (some ⟨w.heap.size,(i+1)*3,none⟩) (n-i) dc,.slice (some ⟨g,i*3,none⟩) (n-i) (n-i)]).run prog W=.ok (goInt ((n-i:Nat):Int)) (W.setRow w.heap.size row2.toArray):=fun W hN hg ty dc=>by
  rw[hrow2];exact Cc underlying58 hsz hN (by simp only[Nat.min_def];split <;> omega) hdl (fun j v hj=>by rw[Addr.add_lit,hg.cell];rw[List.getElem?_drop] at hj;exact hj) (by rw[hdl];omega) (fun v hv=>h1c v (List.mem_of_mem_drop hv))
 have hfin:row2.take ((n+1)*3)=((eY rs i x).map aN).flatten:=by
  have e1:row2=(cur.take (i*3)++aN x++cur.drop (i*3))++row1.drop ((i+1)*3+(cur.drop (i*3)).length):=by
   rw[hrow2]
   congr 2
   rw[hrow1,List.append_assoc,List.take_append,hRt,List.take_of_length_le (by rw[List.length_take];omega)]
   congr 1
   rw[List.take_append,List.take_of_length_le (by rw[hxl,List.length_take];omega),show (i+1)*3-(cur.take (i*3)).length-(aN x).length=0 by rw[hxl,List.length_take];omega];simp
  rw[e1,List.take_append_of_le_length (by simp only[List.length_append,List.length_take,hdl,hxl];omega),List.take_of_length_le (by simp only[List.length_append,List.length_take,hdl,hxl];omega)];unfold eY;rw[List.map_append,List.flatten_append,List.map_cons,List.flatten_cons,LV,KI,←hcs,List.append_assoc]
 have hil:(eY rs i x).length=n+1:=by rw[hne];exact IV (by omega)
 have Hfin:=hidL hfin;have hz1:¬ ((i:Int)=(n:Int)):=by omega
 have hz3:(n:Int)<(n:Int)+1:=by omega
 have hci:¬ (n=i):=by omega
 have hGi:¬ (G=i):=by omega
 have hGi1:¬ (G=i+1):=by omega
 have hin:i≤n:=by omega
 have hw1:IntKind.i64.wrap ((i:Int)+1)=(i:Int)+1:=IntWalk.i64_in _ (by omega);have htn:((i:Int)+1).toNat=i+1:=by omega
 have hmx:maxLen=9223372036854775807:=rfl;have mixed:prog.follows .mixedOrders=true:=by kernel_rfl
 have hb1:(0:Int)≤(i:Int)+1:=by omega
 clear hold hROW hG hRt hrow1 hrow2 hfin ht hg hx h1c hcs hne;go_enter func51,ntmps51;go_wp2_with (first
  | (at_builtin;refine Lib.wpList_append_run _ rfl _ _ _ _ rfl _ _ rfl rfl _ _ (hrz _) ?_)
  | (at_builtin;refine Go.Proofs.wpList_copy_runI _ rfl _ _ 58 58 rfl _ _ rfl rfl (hcpA _ hN1 hx1 _ _) ?_))
 have hN2:=(hN1.row row1).drew;have hg2:=(hg1.grown (nC _ w.heap.size row1.toArray) (fun e=>by injection e with e;omega)).drew;have hgr2:=qx (aF hgr1 (nC _ w.heap.size row1.toArray) (.inr (fun k e=>by injection e with e;omega)));clear hN1 hx1 hg1 hgr1 hcpA hrz
 go_region_law_o (refine Go.Proofs.step_copy_runI rfl _ _ 58 58 rfl (.slice (some ⟨w.heap.size,(i+1)*3,none⟩) (n-i) (G-(i+1))) (.slice (some ⟨g,i*3,none⟩) (n-i) (n-i)) (by simp[Act.eval,Act.put]) (by simp[Act.eval,Act.put]) (hcpB _ hN2 hg2 _ _) ?_)
 have hN3:=hN2.row row2;have hgr3:=aF hgr2 (nC _ w.heap.size row2.toArray) (.inr (fun k e=>by injection e with e;omega));have ho:Own base 61 3 iG NoT _ (.slice (some ⟨w.heap.size,0,none⟩) (eY rs i x).length G) (eY rs i x):=Own.Pe hb hN3 (by omega) hGm hr2l (by rw[hil];exact Hfin.out);rw[hil] at ho;have hnew:∀ k,(Value.slice (some ⟨w.heap.size,0,none⟩) (n+1) G).ownBlock=some k→w.heap.size≤k:=fun k hk=>by
  have:w.heap.size=k:=by simpa[Value.ownBlock] using hk
  omega
 clear hN2 hg2 hgr2 hN3 hcpB Hfin;go_wp2;go_ret;exact⟨_,rfl,ho,hgr3.Ns _,.inr hnew⟩
theorem abJ (base g i gx cap:Nat)(rs:List gD)(x:gD)(cur:List Value)(w:World)(hbg:base≤g)(hg:Box w g 61 cur)(hcap:rs.length+1≤cap)(hcm:cap≤maxLen)(hz:cur.length=cap*3)(ht:cur.take (rs.length*3)=(rs.map aN).flatten)
  (hi:i<rs.length) (hn:rs.length≤1000) (hx:Box w gx 61 (aN x)) (hne:gx≠g) :
  Calls prog 51 #[.slice (some ⟨g,0,none⟩) rs.length cap,O i,.slice (some ⟨gx,0,none⟩) 1 1] w (Kt base w (.slice (some ⟨g,0,none⟩) rs.length cap) (eY rs i x)):=by
 obtain⟨n,hnn⟩:=exE rs.length;obtain⟨cs,hcs⟩:=exE ((rs.map aN).flatten);have hcl:cs.length=n*3:=by rw[hcs,hnn];exact EM rs
 rw[←hnn] at hi hn hcap ht ⊢;rw[←hcs] at ht;have h1c:∀ v∈cs,v.oneCell'=true:=by rw[hcs];exact KP rs
 obtain⟨i0,hi0,hz0,hzs,hzb⟩:=info_parts Rt;have hsz:(prog.info? 61).map (·.size)=some 3:=by rw[hi0];simp[hzs]
 have hz3:∀ w,(Go.sizeOf 61).run prog w=.ok 3 w:=fun w=>by simp[Go.sizeOf,typeInfo,hi0,hzs]
 have hxl:(aN x).length=3:=rfl;have hxo:∀ v∈aN x,v.oneCell'=true:=gI.bK rfl;have hdl:(cs.drop (i*3)).length=(n-i)*3:=by rw[List.length_drop,hcl];omega
 obtain⟨row1,hrow1⟩:=exE (cur.take ((i+1)*3)++cs.drop (i*3)++cur.drop ((i+1)*3+(cs.drop (i*3)).length));have hr1l:row1.length=cap*3:=by rw[hrow1];simp only[List.length_append,List.length_take,List.length_drop];omega
 have hsrc:∀ j v,(cs.drop (i*3))[j]? = some v→cur[i*3+j]? = some v:=fun j v hj=>by
  rw[List.getElem?_drop,←ht,List.getElem?_take] at hj;split at hj
  ·exact hj
  ·cases hj
 have hcp1:∀ (W:World),Box W g 61 cur→∀ ty dc sc,(Builtin.copy_ #[58,58] ty #[.slice (some ⟨g,(i+1)*3,none⟩) (n-i) dc,.slice (some ⟨g,i*3,none⟩) (n+1-i) sc]).run prog W=.ok (goInt ((n-i:Nat):Int)) (W.setRow g row1.toArray):=fun W hg ty dc sc=>by
  rw[hrow1];exact Cc underlying58 hsz hg (by simp only[Nat.min_def];split <;> omega) hdl (fun j v hj=>by rw[Addr.add_lit,hg.cell];exact hsrc j v hj) (by rw[hdl];omega) (fun v hv=>h1c v (List.mem_of_mem_drop hv))
 obtain⟨row2,hrow2⟩:=exE (row1.take (i*3)++aN x++row1.drop (i*3+(aN x).length));have hr2l:row2.length=cap*3:=by rw[hrow2];simp only[List.length_append,List.length_take,List.length_drop,hxl];omega
 have hcp2:∀ (W:World),Box W g 61 row1→Box W gx 61 (aN x)→∀ ty dc,(Builtin.copy_ #[58,58] ty #[.slice (some ⟨g,i*3,none⟩) (n+1-i) dc,.slice (some ⟨gx,0,none⟩) 1 1]).run prog W=.ok (goInt 1) (W.setRow g row2.toArray):=fun W hg hX ty dc=>by
  rw[hrow2];exact Cc underlying58 hsz hg (by simp only[Nat.min_def];split <;> omega) (by rw[hxl]) (fun j v hj=>by rw[Addr.add_lit,Nat.zero_add,hX.cell];exact hj) (by rw[hxl];omega) hxo
 have hfin:row2.take ((n+1)*3)=((eY rs i x).map aN).flatten:=by
  have et:cur.take (i*3)=cs.take (i*3):=by rw[←ht,List.take_take,Nat.min_eq_left (by omega)]
  have e0:row1.take (i*3)=cs.take (i*3):=by rw[hrow1,List.append_assoc,List.take_append_of_le_length (by rw[List.length_take];omega),List.take_take,Nat.min_eq_left (by omega),et]
  have e1:row1.drop (i*3+(aN x).length)=cs.drop (i*3)++cur.drop ((i+1)*3+(cs.drop (i*3)).length):=by
   rw[hrow1,List.append_assoc,hxl,List.drop_append_of_le_length (by rw[List.length_take];omega),List.drop_eq_nil_of_le (by rw[List.length_take];omega),List.nil_append]
  rw[hrow2,e0,e1,←List.append_assoc,List.take_append_of_le_length (by simp only[List.length_append,List.length_take,hdl,hxl];omega),List.take_of_length_le (by simp only[List.length_append,List.length_take,hdl,hxl];omega)];unfold eY;rw[List.map_append,List.flatten_append,List.map_cons,List.flatten_cons,LV,KI,←hcs,List.append_assoc]
 have hil:(eY rs i x).length=n+1:=by rw[hnn];exact IV (by omega)
 have Hfin:=hidL hfin;have hsx:w.shape? gx=some (61,3):=by have:=hx;unfold Box at this;simp[World.shape?,this,aN]
 have hsg:w.shape? g=some (61,cap*3):=by have:=hg;unfold Box at this;simp[World.shape?,this,hz]
 have hov:∀ lb cb,(callFunc 92 #[.slice (some ⟨gx,0,none⟩) 1 1,.slice (some ⟨g,(i+1)*3,none⟩) lb cb]).run prog w=.ok (.value (.bool false)) w:=fun lb cb=>by
  rw[run_callFunc_extern func92 (by kernel_rfl) (by kernel_rfl) (by kernel_rfl) (e:=Extern.SlicesOverlaps.overlaps #[58,58] #[4]) (by kernel_rfl),
   Lib.run_overlaps_apart w 58 4 61 underlying58 3 hz3 ⟨gx,0,none⟩ ⟨g,(i+1)*3,none⟩ 1 1 lb cb hne 61 61 3 (cap*3) hsx hsg (by omega) (hx.frozen 0) (hx.frozen 3)]
  rfl
 have hg1:=hg.drew;have hx1:=hx.drew;have hgr1:w.grownBy w.drew none:=qx (aK (Below.refl _ _) none);have hz1:¬ ((i:Int)=(n:Int)):=by omega
 have hz4:¬ ((cap:Int)<(n:Int)+1):=by omega
 have hci:¬ (cap=i):=by omega
 have hci1:¬ (cap=i+1):=by omega
 have hin:i≤n:=by omega
 have hw1:IntKind.i64.wrap ((i:Int)+1)=(i:Int)+1:=IntWalk.i64_in _ (by omega);have htn:((i:Int)+1).toNat=i+1:=by omega
 have hmx:maxLen=9223372036854775807:=rfl;have mixed:prog.follows .mixedOrders=true:=by kernel_rfl
 have hb3:(i:Int)≤(n:Int)+1:=by omega
 have hb1:(0:Int)≤(i:Int)+1:=by omega
 have hgl:=hg.lt;clear hsrc hrow1 hrow2 hfin ht hg hx h1c hcs hnn hi0 hz0 hzs hzb hsx hsg hz3;go_enter func51,ntmps51;go_wp2_with (simp only[hov])
 go_region_law_o (refine Go.Proofs.step_copy_runI rfl _ _ 58 58 rfl (.slice (some ⟨g,(i+1)*3,none⟩) (n-i) (cap-(i+1))) (.slice (some ⟨g,i*3,none⟩) (n+1-i) (cap-i)) (by simp[Act.eval,Act.put]) (by simp[Act.eval,Act.put]) (hcp1 _ hg1 _ _ _) ?_)
 have hg2:=hg1.row row1;have hx2:=hx1.grown (nC _ g row1.toArray) (fun e=>by injection e with e;omega);have hgr2:=aF (hgr1.Ns (some g)) (nC _ g row1.toArray) (.inl rfl);clear hg1 hx1 hgr1 hcp1;go_wp2_with (at_builtin;refine Go.Proofs.wpList_copy_runI _ rfl _ _ 58 58 rfl _ _ rfl rfl (hcp2 _ hg2 hx2 _ _) ?_)
 have hg3:=hg2.row row2;have hgr3:=aF hgr2 (nC _ g row2.toArray) (.inl rfl);have ho:Own base 61 3 iG NoT _ (.slice (some ⟨g,0,none⟩) (eY rs i x).length cap) (eY rs i x):=Own.Pe hbg hg3 (by omega) hcm hr2l (by rw[hil];exact Hfin.out);rw[hil] at ho;go_ret;exact⟨_,rfl,ho,hgr3,.inl rfl⟩
theorem RN (base gx i:Nat)(v:Value)(rs:List gD)(x:gD)(w:World)(ho:Own base 61 3 iG NoT w v rs)(hi:i≤rs.length)(hn:rs.length≤1000)(hx:Box w gx 61 (aN x))(hne:v.ownBlock≠some gx)(hb:base≤w.heap.size) :
  Calls prog 51 #[v,O i,.slice (some ⟨gx,0,none⟩) 1 1] w (Kt base w v (eY rs i x)):=by
 by_cases h:i=rs.length
 ·subst h;exact acr base gx v rs x w ho hn hx hb
 ·rcases ho.refs with ⟨rfl,rfl⟩ | ⟨g,cap,cur,rfl,hbg,hg,hc,hm,hz,ht⟩
  ·exact absurd (Nat.le_antisymm hi (Nat.zero_le _)) h
  ·by_cases hr:rs.length+1≤cap
   ·exact abJ base g i gx cap rs x cur w hbg hg hr hm hz ht (by omega) hn hx (fun e=>hne (by rw[e];rfl))
   ·obtain rfl:cap=rs.length:=by omega
    exact Zm base g i gx rs x cur w hg hz ht (by omega) hn hx hb
theorem Aq {P:Program}{ops:Array Oper}{o:Oper}{a:Act}{w:World}{K:Act→World→Prop}{Q:Exit→Act→World→Prop}{E:Prop}(hg:o.guard=none)(d x:Operand)(dT sT:TypeId)
  (hop:o.op=Op.call { callee:=Callee.builtin Builtin.append,args:=#[d,x],argTypes:=#[dT,sT] }) (v u:Value) (hd:a.eval d=v) (hx:a.eval x=u) {v':Value} {w':World}
  (hr:(Builtin.append_ #[dT,sT] o.type #[v,u]).run P w=.ok v' w') (hK:K (a.put o.dst v') w'):if Region.wanted o (yielded ops a.tmps)=true then Oper.wp P o a w K Q else E:=by
 have hw:Region.wanted o (yielded ops a.tmps)=true:=by simp[Region.wanted,hg]
 rw[if_pos hw];unfold Oper.wp;simp[execOp,hop,resolve,invoke,builtin,hd,hx,hr,Result.andThen];exact hK
theorem JQ {P:Program}{ops:Array Oper}{rest:List Oper}{o:Oper}{a:Act}{w:World}{Q:Exit→Act→World→Prop}(hgd:o.guard=none)(x:Operand)(t:TypeId)
  (ho:o.op=.call { callee:=.builtin .clear,args:=#[x],argTypes:=#[t] }) (u:Value) (hx:a.eval x=u) {v':Value} {w':World}
  (hr:(Builtin.clear_ #[t] o.type #[u]).run P w=.ok v' w') (h:wpList P ops Q rest (a.put o.dst v') w'):wpList P ops Q (o::rest) a w :=
 wpList_plain hgd fun _ hK=>by
  unfold Oper.wp execOp;simp only[ho,resolve,invoke,builtin,Sem.run_bind,Sem.run_pure,Result.andThen_ok,List.map_toArray,List.map_cons,List.map_nil,hx,hr];exact hK _ _ h
theorem aiZ:∀ w,(zeroValue 61).run prog w=.ok (.agg #[.string .empty,O 0,O 0]) w:=zeroValue61
theorem TU {w:World}{g o c ty:Nat}{t:TypeId}{cur:List Value}(hg:Box w g t cur)(hfit:o+3≤cur.length) :
  (Builtin.clear_ #[58] ty #[.slice (some ⟨g,o,none⟩) 1 c]).run prog w=.ok (.tuple #[]) (w.setRow g (cur.take o++aN .zero++cur.drop (o+3)).toArray):=by
 have hst:=run_storeCells_at prog g o t (aN .zero) 0 cur.toArray w hg (by show o+0+3≤cur.toArray.size;simpa using hfit) (gI.bK rfl);have hz:(Builtin.zeroCells (Value.agg #[E0,O 0,O 0]).cells 1).toList=aN .zero:=by
  show ((Array.range 3).map _).toList=_;rw[Array.toList_map,Array.toList_range];rfl
 rw[Nat.add_zero,show (aN .zero).length=3 from rfl] at hst;simp[Builtin.clear_,run_underlying underlying58,aiZ,hz,hst]
theorem Rj (base i:Nat)(v:Value)(rs:List gD)(w:World)(ho:Own base 61 3 iG NoT w v rs)(hi:i<rs.length)(hn:rs.length≤1000) :
  Calls prog 52 #[v,O i,O ((i:Int)+1)] w (fun e w'=>∃ v',e=.returned v'∧Own base 61 3 iG NoT w' v' (pV rs i)∧w.grownBy w' v.ownBlock∧v'.ownBlock=v.ownBlock):=by
 rcases ho.refs with ⟨rfl,rfl⟩ | ⟨g,cap,cur,rfl,hbg,hg,hc,hm,hz,ht⟩
 ·exact absurd hi (Nat.not_lt_zero _)
 obtain⟨m,hmm⟩:∃ m,rs.length=m+1:=⟨rs.length-1,by omega⟩;obtain⟨cs,hcs⟩:=exE ((rs.map aN).flatten);have hcl:cs.length=(m+1)*3:=by rw[hcs,EM,hmm]
 have h1c:∀ v∈cs,v.oneCell'=true:=by rw[hcs];exact KP rs
 rw[hmm] at hi hn hc ht ⊢;rw[←hcs] at ht;obtain⟨i0,hi0,hz0,hzs,hzb⟩:=info_parts Rt;have hdl:(cs.drop ((i+1)*3)).length=(m-i)*3:=by rw[List.length_drop,hcl];omega
 obtain⟨row1,hrow1⟩:=exE (cur.take (i*3)++cs.drop ((i+1)*3)++cur.drop (i*3+(cs.drop ((i+1)*3)).length));have hr1l:row1.length=cap*3:=by rw[hrow1];simp only[List.length_append,List.length_take,List.length_drop];omega
 obtain⟨A,hA⟩:=exE (if cap=i+1 then ⟨g,0,none⟩ else ⟨g,(i+1)*3,none⟩:Addr);have hap:∀ (W:World),Box W g 61 cur→∀ ty c,(Builtin.append_ #[58,58] ty #[.slice (some ⟨g,0,none⟩) i cap,.slice (some A) (m-i) c]).run prog W=.ok (.slice (some ⟨g,0,none⟩) m cap) (W.setRow g row1.toArray):=fun W hg ty c=>by
  have:=run_append_room (P:=prog) W 58 ty 61 i0 underlying58 hi0 g i cap cur.toArray hg A (m-i) c (cs.drop ((i+1)*3)) (by rw[hzs];exact hdl) (fun j u hj=>by
   have hlt:j<(cs.drop ((i+1)*3)).length:=by
    rcases Nat.lt_or_ge j (cs.drop ((i+1)*3)).length with h | h
    ·exact h
    ·rw[List.getElem?_eq_none h] at hj;cases hj
   rw[hdl] at hlt;rw[hA,if_neg (by omega),Addr.add_lit,hg.cell];rw[List.getElem?_drop,←ht,List.getElem?_take] at hj;split at hj
   ·exact hj
   ·cases hj) (fun v hv=>h1c v (List.mem_of_mem_drop hv)) (by omega) (by rw[hzs,hdl];simp;omega)
  rw[hrow1,show m=i+(m-i) by omega];rw[hzs] at this;simpa using this
 obtain⟨row2,hrow2⟩:=exE (row1.take (m*3)++aN .zero++row1.drop (m*3+3));have hr2l:row2.length=cap*3:=by rw[hrow2];simp only[List.length_append,List.length_take,List.length_drop,show (aN .zero).length=3 from rfl];omega
 have hcr:∀ (W:World),Box W g 61 row1→∀ ty c,(Builtin.clear_ #[58] ty #[.slice (some ⟨g,m*3,none⟩) 1 c]).run prog W=.ok (.tuple #[]) (W.setRow g row2.toArray):=fun W hg ty c=>by
  rw[hrow2];exact TU hg (by omega)
 have hfin:row2.take (m*3)=((pV rs i).map aN).flatten:=by
  have et:cur.take (i*3)=cs.take (i*3):=by rw[←ht,List.take_take,Nat.min_eq_left (by omega)]
  rw[hrow2,List.append_assoc,List.take_append_of_le_length (by rw[List.length_take];omega),List.take_take,Nat.min_self,hrow1,List.take_append_of_le_length (by simp only[List.length_append,List.length_take,hdl];omega),List.take_of_length_le (by simp only[List.length_append,List.length_take,hdl];omega),et];unfold pV;rw[List.map_append,List.flatten_append,LV,KI,←hcs]
 have hil:(pV rs i).length=m:=by unfold pV;simp[hmm];omega
 have HO:=hidL (fun W (h:Box W g 61 row2)=>show Own base 61 3 iG NoT W (.slice (some ⟨g,0,none⟩) m cap) (pV rs i) by
  have ho:=Own.Pe hbg h (rs:=pV rs i) (cap:=cap) (by omega) hm hr2l (by rw[hil];exact hfin);rw[hil] at ho;exact ho)
 have hg1:=hg.drew;have hgr1:w.grownBy w.drew (some g):=qx (aK (Below.refl _ _) _);have hin:i≤m:=by omega
 have hii:¬ ((i:Int)=(i:Int)+1):=by omega
 have hb1:(0:Int)≤(i:Int)+1:=by omega
 have hb2:(i:Int)+1≤(m:Int)+1:=by omega
 have hb3:(i:Int)≤(i:Int)+1:=by omega
 have htn:((i:Int)+1).toNat=i+1:=by omega
 have hci:¬ (cap=i):=by omega
 have hcm2:¬ (cap=m):=by omega
 have hmx:maxLen=9223372036854775807:=rfl;have mixed:prog.follows .mixedOrders=true:=by kernel_rfl
 clear ho hrow1 hrow2 hfin ht hg h1c hcs hi0 hz0 hzs hzb hmm;go_enter func52,ntmps52;have hic:i≤cap:=by omega
 by_cases hcc:cap=i+1
 case' pos =>
  obtain rfl:m=i:=by omega
  subst hcc;rw[if_pos rfl] at hA;subst hA;simp only[Nat.sub_self] at hap;go_wp2_with fail
  go_region_law_o (refine Aq rfl _ _ 58 58 rfl (.slice (some ⟨g,0,none⟩) m (m+1)) (.slice (some ⟨g,0,none⟩) 0 0) (by simp[Act.eval,Act.put]) (by simp[Act.eval,Act.put]) (hap _ hg1 _ _) ?_)
 case' neg =>
  rw[if_neg hcc] at hA;subst hA;go_wp2_with fail
  go_region_law_o (refine Aq rfl _ _ 58 58 rfl (.slice (some ⟨g,0,none⟩) i cap) (.slice (some ⟨g,(i+1)*3,none⟩) (m-i) (cap-(i+1))) (by simp[Act.eval,Act.put]) (by simp[Act.eval,Act.put]) (hap _ hg1 _ _) ?_)
 all_goals
  have hg2:=hg1.row row1;have hgr2:=aF hgr1 (nC _ g row1.toArray) (.inl rfl);clear hap hg1 hgr1;go_wp2_with (at_builtin;refine JQ rfl _ 58 rfl _ rfl (hcr _ hg2 _ _) ?_)
  have hg3:=hg2.row row2;have hgr3:=aF hgr2 (nC _ g row2.toArray) (.inl rfl);go_ret;exact⟨_,rfl,HO.out _ hg3,hgr3,rfl⟩
end
section
open Go.Proofs.Tryz
open Go.RowKit
structure Touch (row:Option Nat) (g:Nat) (w w':World):Prop where
 os:w'.os=w.os
 tape:w'.tape=w.tape
 output:w'.output=w.output
 size:w.heap.size≤w'.heap.size
 block:∀ y,y<w.heap.size→y≠g→row≠some y→w'.heap[y]? = w.heap[y]?
section
variable {row row2:Option Nat}{g:Nat}{a b c w:World}
theorem Touch.refl (row:Option Nat)(g:Nat)(w:World):Touch row g w w:=⟨rfl,rfl,rfl,Nat.le_refl _,fun _ _ _ _=>rfl⟩
theorem Touch.trans (h:Touch row g a b)(k:Touch row2 g b c)(hr:row2=row∨∀ y,row2=some y→a.heap.size≤y):Touch row g a c :=
 ⟨k.os.trans h.os,k.tape.trans h.tape,k.output.trans h.output,Nat.le_trans h.size k.size,fun y hy hg hn=>by
  rw[k.block y (Nat.lt_of_lt_of_le hy h.size) hg (by
   rcases hr with rfl | hr
   ·exact hn
   ·intro e;have:=hr y e;omega)]
  exact h.block y hy hg hn⟩
theorem Touch.below (h:Below a.heap.size a b):Touch row g a b:=⟨h.os,h.tape,h.output,h.size,fun y hy _ _=>h.block y hy⟩
theorem Touch.via (h:Touch row g a b)(k:Below b.heap.size b c):Touch row g a c:=h.trans (Touch.below (row:=row) k) (.inl rfl)
theorem Touch.grown (h:a.grownBy b row):Touch row g a b:=⟨h.os,h.tape,h.output,h.size,fun y hy _ hn=>h.block y hy (fun e=>hn e.symm)⟩
theorem Touch.setCell (h:Touch row g a b){p:Addr}(hp:p.block=g∨row=some p.block∨a.heap.size≤p.block)(u:Value):Touch row g a (b.setCell p u) :=
 ⟨h.os,h.tape,h.output,by simpa using h.size,fun y hy hg hn=>by
  have hne:y≠p.block:=by
   rintro rfl;rcases hp with e | e | e
   ·exact hg e
   ·exact hn e
   ·omega
  rw[Below.heap_setCell b p u y hne];exact h.block y hy hg hn⟩
theorem Touch.keep {S:Nat→Prop}(h:Touch row g a b)(hg:¬ S g)(hr:∀ y,row=some y→¬ S y):az S a b:=⟨h.size,fun y hy hl=>h.block y hl (fun e=>hg (e ▸ hy)) (fun e=>hr y e hy)⟩
theorem Touch.aeJ (h:Touch row g a b){B:Nat}(hB:B≤a.heap.size)(hg:B≤g)(hr:∀ y,row=some y→B≤y):Below B a b :=
 ⟨h.os,h.tape,h.output,h.size,fun y hy=>h.block y (by omega) (by omega) (fun e=>by have:=hr y e;omega)⟩
end
theorem LQ (n:Int):∀ (rs:List gD) (k:Nat),k<rs.length→((rs.map aN).flatten).set (k*3+1) (O n)=((rF rs k n).map aN).flatten
 | r::rs,0,_=>by simp[rF,fH,aN]
 | r::rs,k+1,h=>by
  have ih:=LQ n rs k (by simpa using h);have e:rF (r::rs) (k+1) n=r::rF rs k n:=by simp[rF,fH]
  rw[e,List.map_cons,List.flatten_cons,List.map_cons,List.flatten_cons,←ih,List.set_append_right _ _ (by simp[aN];omega)]
  congr 2
  simp[aN];omega
def Br (rs:List gD)(k:Nat)(n:Int):List gD:=rs.set k { fH rs k with policy:=n }
theorem Vr (n:Int):∀ (rs:List gD) (k:Nat),k<rs.length→((rs.map aN).flatten).set (k*3+2) (O n)=((Br rs k n).map aN).flatten
 | r::rs,0,_=>by simp[Br,fH,aN]
 | r::rs,k+1,h=>by
  have ih:=Vr n rs k (by simpa using h);have e:Br (r::rs) (k+1) n=r::Br rs k n:=by simp[Br,fH]
  rw[e,List.map_cons,List.flatten_cons,List.map_cons,List.flatten_cons,←ih,List.set_append_right _ _ (by simp[aN];omega)]
  congr 2
  simp[aN];omega
theorem Own.akH {base g n j:Nat}{cap:Nat}{w:World}{rs rs':List gD}{u:Value}(h:Own base 61 3 iG NoT w (.slice (some ⟨g,0,none⟩) n cap) rs)(hl:rs'.length=rs.length)(hj:j<rs.length*3)(he:((rs.map aN).flatten).set j u=(rs'.map aN).flatten) :
  Own base 61 3 iG NoT (w.setCell ⟨g,j,none⟩ u) (.slice (some ⟨g,0,none⟩) n cap) rs':=by
 rcases h.refs with ⟨h0,-⟩ | ⟨g',cap',cur,h0,hbg,hg,hc,hm,hz,ht⟩
 ·cases h0
 ·simp only[Value.slice.injEq,Option.some.injEq,Addr.mk.injEq,and_true] at h0;obtain⟨rfl,rfl,rfl⟩:=h0;have:=Own.Pe hbg (hg.gB j u) (rs:=rs') (cap:=cap) (by omega) hm (by simpa using hz) (by rw[hl,List.take_set,ht];exact he);rw[hl] at this;exact this
theorem acR (rs:List gD)(k:Nat)(n:Int):(rF rs k n).length=rs.length:=by simp[rF]
def jd:Rel kR:=fun S w cs x=>∃ vf,cs=[O x.code,O x.n,.string x.text,vf]∧RSl 3 32 aU S w [vf] x.flaws
theorem jd.fair:Fair jd:=⟨by
  rintro S w w' cs t ⟨vf,h,a⟩ hk;exact⟨vf,h,(RSl.fair aU.fair).keep a hk⟩,by
  rintro S T w cs t ⟨vf,h,a⟩ hk;exact⟨vf,h,(RSl.fair aU.fair).mono a hk⟩⟩
theorem jd.flat {S:Nat→Prop}{w:World}{code n:Int}{text:ByteArray}:jd S w [O code,O n,.string text,Z0] ⟨code,n,text,[]⟩:=⟨_,rfl,RSl.dJ⟩
def pF (S:Nat→Prop)(row:Option Nat)(base g:Nat)(w w':World)(s':cK):Prop :=
 ∃ S' row',bS S' row' base w' g s'∧(∀ y,S' y→S y∨w.heap.size≤y)∧(row'=row∨∀ k,row'=some k→w.heap.size≤k)∧Touch row g w w'
def eD (S:Nat→Prop)(row:Option Nat)(base g:Nat)(w:World)(r:kR × cK)(e:Ending)(w':World):Prop :=
 ∃ cs S' row',e=.returned (.agg cs.toArray)∧jd (fun y=>w.heap.size≤y∧row'≠some y) w' cs r.1∧bS S' row' base w' g r.2∧(∀ y,S' y→S y∨w.heap.size≤y)∧(row'=row∨∀ k,row'=some k→w.heap.size≤k)∧Touch row g w w'
theorem Touch.setCells {row:Option Nat}{g x:Nat}{a:World}(hx:a.heap.size≤x):∀ (vs:List Value) (i:Nat) (b:World),Touch row g a b→Touch row g a (setCells b x i vs)
 | [],_,_,h=>h
 | v::vs,i,b,h=>Touch.setCells hx vs (i+1) _ (h.setCell (p:=⟨x,i,none⟩) (.inr (.inr hx)) v)
section
variable {S S':Nat→Prop}{row:Option Nat}{base g x:Nat}{w:World}{s:cK}
theorem bS.ne {row:Nat}(h:bS S (some row) base w g s):row≠g:=by
 obtain⟨vc,vr,h1,h2,-,h4,-⟩:=h;rintro rfl;exact h2.gV h4 (by decide) h1
theorem bS.far (h:bS S row base w g s){p:Addr}(u:Value)(h1:p.block≠g)(h2:row≠some p.block)(h3:¬ S p.block):bS S row base (w.setCell p u) g s:=by
 obtain⟨vc,vr,a1,a2,a3,a4,a5,a6,a7,a8⟩:=h;exact⟨vc,vr,a1,a2.far (Ne.symm h1) u,(RSl.fair dw.fair).keep a3 (az.setCell _ _ h3),a4.setCell iG.fair u (a1 ▸ h2) (fun h=>h),a5,a6,by simpa using a7,a8⟩
theorem bS.fq (h1:x≠g)(h2:row≠some x)(h3:¬ S x):∀ (vs:List Value) (i:Nat) (w:World),bS S row base w g s→bS S row base (setCells w x i vs) g s
 | [],_,_,h=>h
 | v::vs,i,w,h=>bS.fq h1 h2 h3 vs (i+1) _ (h.far (p:=⟨x,i,none⟩) v h1 h2 h3)
theorem bS.ann (h:bS S row base w g s){v:Value}{cs:List fD}(hr:RSl 2 48 dw S' w [v] cs)(h1:¬ S' g)(h2:∀ k,row=some k→¬ S' k)(h3:∀ y,S' y→y<w.heap.size) :
  bS S' row base (w.setCell ⟨g,0,none⟩ v) g ⟨cs,s.rs,s.acts⟩:=by
 obtain⟨vc,vr,a1,a2,-,a4,-,-,-,a8⟩:=h;exact⟨v,vr,a1,a2.gB 0 v,(RSl.fair dw.fair).keep hr (az.setCell _ _ h1),a4.setCell iG.fair v (a2.gV a4 (by decide)) (fun h=>h),h1,h2,by simpa using h3,a8⟩
theorem bS.amF {gr j:Nat}(h:bS S (some gr) base w g s){rs':List gD}{u:Value}(hl:rs'.length=s.rs.length)(hj:j<s.rs.length*3)(he:((s.rs.map aN).flatten).set j u=(rs'.map aN).flatten) :
  bS S (some gr) base (w.setCell ⟨gr,j,none⟩ u) g ⟨s.cs,rs',s.acts⟩:=by
 have hne:=h.ne;obtain⟨vc,vr,a1,a2,a3,a4,a5,a6,a7,a8⟩:=h;obtain⟨A,c,rfl,-⟩:=a4.form;obtain⟨g',rfl,-,-⟩:=a4.qR (by omega);obtain rfl:g'=gr:=by simpa[Value.ownBlock] using a1
 exact⟨vc,_,rfl,a2.far (Ne.symm hne) u,(RSl.fair dw.fair).keep a3 (az.setCell _ _ (a6 _ rfl)),a4.akH hl hj he,a5,a6,by simpa using a7,a8⟩
end
theorem bS.GM {S:Nat→Prop}{base g k:Nat}{w:World}{s:cK}(h:bS S (some k) base w g s):base≤k∧k<w.heap.size:=by
 obtain⟨vc,vr,h1,-,-,h4,-⟩:=h;exact h4.lt h1
theorem eD.of {S S0 S':Nat→Prop}{row:Option Nat}{base g:Nat}{w w':World}{s s':cK}{x:kR}{cs:List Value}(h:bS S0 row base w g s)(hr:jd (New w) w' cs x)(hn:bS S' row base w' g s')(hS:∀ y,S' y→S y∨w.heap.size≤y)(ht:Touch row g w w') :
  eD S row base g w (x,s') (.returned (.agg cs.toArray)) w' :=
 ⟨cs,S',row,rfl,jd.fair.mono hr (fun y hy _=>⟨hy,fun e=>by subst e;have:=h.GM.2;have hy:w.heap.size≤y:=hy;omega⟩),hn,hS,.inl rfl,ht⟩
theorem eD.same {S T:Nat→Prop}{row:Option Nat}{base g:Nat}{w w':World}{s:cK}{x:kR}{cs:List Value}(h:bS S row base w g s)(hb:Below w.heap.size w w')(hr:jd (New w) w' cs x)(hT:∀ y,S y→T y):eD T row base g w (x,s) (.returned (.agg cs.toArray)) w' :=
 eD.of h hr (h.below hb) (fun y hy=>.inl (hT y hy)) (Touch.below hb)
theorem pF.same {S:Nat→Prop}{row:Option Nat}{base g:Nat}{w w':World}{s:cK}(h:bS S row base w g s)(hb:Below w.heap.size w w'):pF S row base g w w' s :=
 ⟨S,row,h.below hb,fun _ h=>.inl h,.inl rfl,Touch.below hb⟩
theorem pF.mono {S T:Nat→Prop}{row:Option Nat}{base g:Nat}{w w':World}{s:cK}(hT:∀ y,S y→T y)(h:pF S row base g w w' s):pF T row base g w w' s:=by
 obtain⟨S',row',h1,h2,h3⟩:=h;exact⟨S',row',h1,fun y hy=>(h2 y hy).imp (hT y) id,h3⟩
end
end Go.Proofs.YtknnhpkjgnkcdaaGreatDoor
