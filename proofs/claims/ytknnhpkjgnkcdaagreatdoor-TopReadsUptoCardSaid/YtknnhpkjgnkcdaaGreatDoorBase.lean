/- Walks and plain laws. -/
import Derived.WalkSpells
import Derived.WalkLawsBesides
import Derived.BigQuiet
import Derived.Lib.Hide
import Derived.Deep.AppendLies
import Derived.Lib.ItoaNum
import Derived.Lib.AtoiTie
set_option linter.all false
namespace Go.Proofs.YtknnhpkjgnkcdaaGreatDoor
section
open Go.RowKit
abbrev O (x:Int):Value:=.int .i64 x
abbrev Z0:Value:=.slice none 0 0
abbrev E0:Value:=.string ⟨#[]⟩
abbrev VV {α β:Type}(k n:Int)(s:ByteArray)(A:Option Addr)(i:List α)(c:Nat)(B:Option Addr)(l:List β)(d:Nat):List Value:=[O k,O n,.string s,.slice A i.length c,.slice B l.length d]
abbrev FF (i:Int)(n t:ByteArray)(k r:Int):List Value:=[O i,.string n,.string t,O k,O r]
abbrev LL (w:World)(g o:Nat)(v:Value):Prop:=w.cell? ⟨g,o,none⟩=some v
theorem hidL {p:Prop}(h:p):RowKit.Hid p:=h
theorem exE {α:Sort _}(e:α):∃ x,x=e:=⟨_,rfl⟩
def az (S:Nat→Prop)(w w':World):Prop:=w.heap.size≤w'.heap.size∧∀ g,S g→g<w.heap.size→w'.heap[g]? = w.heap[g]?
theorem az.refl (S:Nat→Prop)(w:World):az S w w:=⟨Nat.le_refl _,fun _ _ _=>rfl⟩
theorem az.trans {S:Nat→Prop}{a b c:World}(h:az S a b)(k:az S b c):az S a c :=
 ⟨Nat.le_trans h.1 k.1,fun g hs hg=>(k.2 g hs (Nat.lt_of_lt_of_le hg h.1)).trans (h.2 g hs hg)⟩
theorem az.of_below {S:Nat→Prop}{w w':World}(h:Below w.heap.size w w'):az S w w':=⟨h.size,fun g _ hg=>h.block g hg⟩
theorem az.bH {S:Nat→Prop}{w w':World}{row:Option Nat}(h:w.grownBy w' row)(hr:∀ k,row=some k→¬ S k):az S w w' :=
 ⟨h.size,fun g hs hg=>h.block g hg (fun e=>hr g e.symm hs)⟩
theorem az.alloc (S:Nat→Prop)(w:World)(o:Obj):az S w (w.alloc o):=⟨by simp,fun g _ hg=>Below.heap_alloc w o g hg⟩
theorem az.setCell {S:Nat→Prop}(w:World){a:Addr}(u:Value)(ha:¬ S a.block):az S w (w.setCell a u) :=
 ⟨by simp[World.setCell],fun g hs _=>Below.heap_setCell w a u g (fun e=>ha (e ▸ hs))⟩
theorem az.drew (S:Nat→Prop)(w:World):az S w w.drew:=⟨Nat.le_refl _,fun _ _ _=>rfl⟩
theorem az.drewN (S:Nat→Prop)(w:World)(n:Nat):az S w (w.drewN n):=⟨Nat.le_refl _,fun _ _ _=>rfl⟩
theorem az.mono {S T:Nat→Prop}{w w':World}(h:az S w w')(hs:∀ g,T g→S g):az T w w':=⟨h.1,fun g hg=>h.2 g (hs g hg)⟩
def ik (w:World)(g o:Nat)(cs:List Value):Prop:=∀ j,j<cs.length→w.cell? ⟨g,o+j,none⟩=cs[j]?
theorem ik.keep {S:Nat→Prop}{w w':World}{g o:Nat}{cs:List Value}(h:ik w g o cs)(hk:az S w w')(hg:S g):ik w' g o cs:=fun j hj=>by
 have h1:=h j hj;rw[List.getElem?_eq_getElem hj] at h1;have hlt:=World.block_lt_of_cell? w _ h1;rw[World.cell?_of_block (w:=w) (hk.2 g hg hlt),List.getElem?_eq_getElem hj];exact h1
theorem ik.at_ {w:World}{g o:Nat}{cs:List Value}(h:ik w g o cs)(j:Nat){u:Value}(hj:cs[j]? = some u):LL w g (o+j) u:=by
 have hl:j<cs.length:=by
  rcases Nat.lt_or_ge j cs.length with h | h
  ·exact h
  ·rw[List.getElem?_eq_none h] at hj;cases hj
 exact(h j hl).trans hj
theorem ik.a0 {w:World}{g o:Nat}{cs:List Value}(h:ik w g o cs){u:Value}(e:cs[0]? = some u):LL w g o u:=h.at_ 0 e
abbrev Rel (α:Type):=(Nat→Prop)→World→List Value→α→Prop
structure Fair {α:Type} (R:Rel α):Prop where
 keep:∀ {S w w' cs x},R S w cs x→az S w w'→R S w' cs x
 mono:∀ {S T w cs x},R S w cs x→(∀ g,S g→g<w.heap.size→T g)→R T w cs x
def RSl {α:Type}(sz by_:Nat)(R:Rel α):Rel (List α):=fun S w cs xs =>
 ∃ A cap,cs=[.slice A xs.length cap]∧xs.length≤cap∧xs.length*by_≤140737488351232 ∧
  ∀ k x,xs[k]? = some x→∃ g o es,A=some ⟨g,o,none⟩∧S g∧g<w.heap.size∧es.length=sz∧R S w es x∧ik w g (o+k*sz) es
theorem RSl.fair {α:Type}{sz by_:Nat}{R:Rel α}(hR:Fair R):Fair (RSl sz by_ R):=⟨by
  rintro S w w' cs xs ⟨A,cap,h1,h2,h3,h4⟩ hk;refine⟨A,cap,h1,h2,h3,fun k x hx=>?_⟩;obtain⟨g,o,es,ha,hs,hg,hl,hr,hc⟩:=h4 k x hx;exact⟨g,o,es,ha,hs,Nat.lt_of_lt_of_le hg hk.1,hl,hR.keep hr hk,hc.keep hk hs⟩,by
  rintro S T w cs xs ⟨A,cap,h1,h2,h3,h4⟩ hm;refine⟨A,cap,h1,h2,h3,fun k x hx=>?_⟩;obtain⟨g,o,es,ha,hs,hg,hl,hr,hc⟩:=h4 k x hx;exact⟨g,o,es,ha,hm g hs hg,hg,hl,hR.mono hr hm,hc⟩⟩
def dS {α:Type}(enc:α→List Value):Rel α:=fun _ _ cs x=>cs=enc x
theorem dS.fair {α:Type}(enc:α→List Value):Fair (dS enc):=⟨fun h _=>h,fun h _=>h⟩
def aQ:Rel Int:=dS fun x=>[O x]
theorem aQ.fair:Fair aQ:=dS.fair _
def lQ:Rel ByteArray:=dS fun x=>[.string x]
theorem lQ.fair:Fair lQ:=dS.fair _
section
variable {α:Type}{sz by_:Nat}{R:Rel α}{S:Nat→Prop}{w:World}{v:Value}{xs:List α}
theorem RSl.form (h:RSl sz by_ R S w [v] xs):∃ A cap,v=.slice A xs.length cap∧xs.length≤cap∧xs.length*by_≤140737488351232:=by
 obtain⟨A,cap,h1,h2,h3,_⟩:=h;exact⟨A,cap,by simpa using h1,h2,h3⟩
theorem RSl.at_ {A:Option Addr}{n cap k:Nat}(h:RSl sz by_ R S w [.slice A n cap] xs)(hk:k<xs.length) :
  ∃ g o es,A=some ⟨g,o,none⟩∧S g∧g<w.heap.size∧es.length=sz∧R S w es xs[k]∧ik w g (o+k*sz) es:=by
 obtain⟨A',cap',h1,_,_,h4⟩:=h;obtain⟨rfl,_,_⟩:A=A'∧n=xs.length∧cap=cap':=by simpa using h1
 exact h4 k _ (List.getElem?_eq_getElem hk)
theorem RSl.len {A:Option Addr}{n cap:Nat}(h:RSl sz by_ R S w [.slice A n cap] xs):n=xs.length:=by
 obtain⟨A',cap',h1,_⟩:=h;simp at h1;exact h1.2.1
theorem RSl.dJ:RSl sz by_ R S w [Z0] ([]:List α):=⟨none,0,by simp,by simp,by simp,fun k x hx=>by simp at hx⟩
end
def Own {α:Type}(base e sz:Nat)(R:Rel α)(T:Nat→Prop)(w:World)(v:Value)(xs:List α):Prop :=
 ∃ css:List (List Value),w.ownsRow base e sz v xs.length css.flatten∧css.length=xs.length∧(∀ k,v.ownBlock=some k→¬ T k) ∧
  ∀ (k:Nat) (x:α) (cs:List Value),xs[k]? = some x→css[k]? = some cs→cs.length=sz∧R T w cs x
section
variable {α:Type}{base e sz by_:Nat}{R:Rel α}{T:Nat→Prop}{w w':World}{v:Value}{xs:List α}
theorem Own.dJ (base e sz:Nat)(R:Rel α)(T:Nat→Prop)(w:World):Own base e sz R T w (Z0) ([]:List α) :=
 ⟨[],World.ownsRow_nil _ _ _ _,rfl,fun k hk=>by simp[Value.ownBlock] at hk,fun k x cs hx=>by simp at hx⟩
theorem Own.lt (h:Own base e sz R T w v xs){k:Nat}(hk:v.ownBlock=some k):base≤k∧k<w.heap.size:=by
 obtain⟨css,h1,_⟩:=h;exact h1.lt k hk
theorem Own.kept (hR:Fair R)(h:Own base e sz R T w v xs){row:Option Nat}(hg:w.grownBy w' row)(hne:v.ownBlock=none∨v.ownBlock≠row)(hT:∀ k,row=some k→¬ T k):Own base e sz R T w' v xs:=by
 obtain⟨css,h1,h2,h3,h4⟩:=h;exact⟨css,h1.kept hg hne,h2,h3,fun k x cs hx hc=>⟨(h4 k x cs hx hc).1,hR.keep (h4 k x cs hx hc).2 (az.bH hg hT)⟩⟩
theorem Own.alloc (hR:Fair R)(h:Own base e sz R T w v xs)(o:Obj):Own base e sz R T (w.alloc o) v xs :=
 h.kept hR (World.grownBy_alloc w o none) (by cases hv:v.ownBlock <;> simp) (by simp)
theorem Own.mono (hR:Fair R)(h:Own base e sz R T w v xs){T':Nat→Prop}(hT:∀ g,T g→g<w.heap.size→T' g)(hv:∀ k,v.ownBlock=some k→¬ T' k):Own base e sz R T' w v xs:=by
 obtain⟨css,h1,h2,h3,h4⟩:=h;exact⟨css,h1,h2,hv,fun k x cs hx hc=>⟨(h4 k x cs hx hc).1,hR.mono (h4 k x cs hx hc).2 hT⟩⟩
end
def CK (w:World)(row:Option Nat)(v:Value):Prop:=v.ownBlock=row∨∀ k,v.ownBlock=some k→w.heap.size≤k
theorem aF {a b c:World}{row row2:Option Nat}(h:a.grownBy b row)(k:b.grownBy c row2)(hr:row2=row∨∀ k,row2=some k→a.heap.size≤k):a.grownBy c row :=
 ⟨k.os.trans h.os,k.tape.trans h.tape,k.output.trans h.output,Nat.le_trans h.size k.size,fun i hi hne=>by
  refine(k.block i (Nat.lt_of_lt_of_le hi h.size) (fun e=>?_)).trans (h.block i hi hne);rcases hr with hr | hr
  ·exact hne (e.trans hr)
  ·have:=hr i e.symm;omega⟩
theorem jC {a b:World}{row:Option Nat}(h:a.grownBy b row)(o:Obj):a.grownBy (b.alloc o) row :=
 aF h (World.grownBy_alloc b o row) (.inl rfl)
theorem aK {a b:World}(h:Below a.heap.size a b)(row:Option Nat):a.grownBy b row:=⟨h.os,h.tape,h.output,h.size,fun i hi _=>h.block i hi⟩
theorem iV {a b:World}{row:Option Nat}(h:a.grownBy b row){p:Addr}(hp:some p.block=row∨a.heap.size≤p.block)(u:Value):a.grownBy (b.setCell p u) row :=
 ⟨h.os,h.tape,h.output,by simpa[World.setCell] using h.size,fun i hi hne=>(Below.heap_setCell b p u i (by
  rintro rfl;rcases hp with hp | hp
  ·exact hne hp
  ·omega)).trans (h.block i hi hne)⟩
theorem qx {a b:World}{row:Option Nat}(h:a.grownBy b row):a.grownBy b.drew row:=⟨h.os,h.tape,h.output,h.size,h.block⟩
theorem CK.step {a b:World}{row:Option Nat}{v v':Value}{n:Nat}(h:CK a row v)(h':v'.ownBlock=v.ownBlock∨v'.ownBlock=some n)(hs:a.heap.size≤b.heap.size)(hn:b.heap.size≤n):CK a row v':=by
 rcases h' with h' | h'
 ·unfold CK;rw[h'];exact h
 ·right;intro k hk;rw[h'] at hk;cases hk;omega
theorem CK.trans {a b:World}{v v':Value}{row:Option Nat}(h:CK a row v)(h':CK b v.ownBlock v')(hs:a.heap.size≤b.heap.size):CK a row v':=by
 rcases h' with h' | h'
 ·unfold CK;rw[h'];exact h
 ·right;intro k hk;have:=h' k hk;omega
def dK (P:Program)(t e sz by_:Nat):Prop :=
 P.underlying t=some (.slice e)∧0<sz∧0<by_∧∃ i z,P.info? e=some i∧i.zero=some z∧i.size=sz∧i.bytes=by_∧z.cells.size=sz
theorem dK.mk {P:Program}{t e sz by_:Nat}{z:Value}(h1:P.underlying t=some (.slice e))(h2:0<sz)(h3:0<by_)
  (h4:(P.info? e).map (fun i=>(i.zero,i.size,i.bytes))=some (some z,sz,by_)) (h5:z.cells.size=sz):dK P t e sz by_:=by
 obtain⟨i,hi,hz,hs,hb⟩:=info_parts h4;exact⟨h1,h2,h3,i,z,hi,hz,hs,hb,h5⟩
theorem oD {α:Type}:∀ (l:List (List α)) (n k j:Nat) (c:List α),(∀ x∈l,x.length=n)→l[k]? = some c→j<n→l.flatten[k*n+j]? = c[j]?
 | [],n,k,j,c,_,h,_=>by simp at h
 | x::l,n,0,j,c,hn,h,hj=>by
  simp at h;subst h;rw[List.flatten_cons,Nat.zero_mul,Nat.zero_add,List.getElem?_append_left (by rw[hn x (by simp)];exact hj)]
 | x::l,n,k+1,j,c,hn,h,hj=>by
  have hx:=hn x (by simp);rw[List.flatten_cons,List.getElem?_append_right (by rw[hx,Nat.add_mul];omega),hx];have:=oD l n k j c (fun y hy=>hn y (by simp[hy])) (by simpa using h) hj;rw[←this];congr 1;rw[Nat.add_mul];omega
theorem qz {α:Type}(n:Nat):∀ (l:List (List α)),(∀ x∈l,x.length=n)→l.flatten.length=l.length*n
 | [],_=>by simp
 | x::l,h=>by rw[List.flatten_cons,List.length_append,h x (by simp),qz n l (fun y hy=>h y (by simp[hy])),List.length_cons,Nat.add_mul];omega
def gI (cs:List Value):Prop:=∀ u∈cs,u.oneCell'=true
section
variable {α:Type}{P:Program}{w:World}{R:Rel α}{T:Nat→Prop}
def Src (sz:Nat)(R:Rel α)(T:Nat→Prop)(w:World)(A:Option Addr)(ys:List α):Prop :=
 ∃ css:List (List Value),css.length=ys.length∧(∀ x∈css,x.length=sz∧gI x) ∧
  (∀ (k:Nat) (y:α) (cs:List Value),ys[k]? = some y→css[k]? = some cs→R T w cs y) ∧
  (∀ j u,css.flatten[j]? = some u→∃ ad,A=some ad∧w.cell? (ad.add j)=some u)
theorem Src.dJ (sz:Nat)(R:Rel α)(T:Nat→Prop)(w:World)(A:Option Addr):Src sz R T w A ([]:List α) :=
 ⟨[],rfl,by simp,fun k y cs h=>by simp at h,fun j u h=>by simp at h⟩
theorem Src.one {sz g:Nat}{es:List Value}{y:α}(hl:es.length=sz)(h1:gI es)(hr:R T w es y)(hc:ik w g 0 es):Src sz R T w (some ⟨g,0,none⟩) [y]:=by
 refine⟨[es],rfl,?_,?_,?_⟩
 ·simpa using⟨hl,h1⟩
 ·intro k y' cs hy hcs;cases k with
  | zero=>simp at hy hcs;subst hy;subst hcs;exact hr
  | succ k=>simp at hy
 ·intro j u hj;simp at hj;refine⟨_,rfl,?_⟩;have:=hc.at_ j hj;have hadd:(⟨g,0,none⟩:Addr).add j=⟨g,0+j,none⟩:=by unfold Addr.add;split <;> simp_all
  rw[hadd];exact this
theorem ik.new (w:World)(cs:List Value)(e:TypeId):ik (w.alloc (.cells cs.toArray e)) w.heap.size 0 cs:=by
 intro j hj;rw[Nat.zero_add,cell_of_row (w.alloc (.cells cs.toArray e)) w.heap.size j cs.toArray e (0,0) (heap_alloc_new w _)];simp
theorem gI.bK {cs:List Value}(h:cs.all (fun u=>u.oneCell')=true):gI cs:=fun u hu=>by
 simpa using List.all_eq_true.1 h u hu
def pE (R:Rel α):Prop:=∀ {S w cs x},R S w cs x→gI cs
theorem RSl.src {sz by_ cap n:Nat}{A:Option Addr}{xs:List α}(h0:0<sz)(ho:pE R)(h:RSl sz by_ R T w [.slice A n cap] xs):Src sz R T w A xs:=by
 by_cases hx:xs.length=0
 ·have:xs=[]:=List.eq_nil_of_length_eq_zero hx;subst this;exact Src.dJ _ _ _ _ _
 obtain⟨g,o,_,hA,_⟩:=h.at_ (k:=0) (by omega);subst hA;have hk:∀ k,k<xs.length→∃ es:List Value,es.length=sz∧(∀ x,xs[k]? = some x→R T w es x)∧ik w g (o+k*sz) es:=by
  intro k hk;obtain⟨g',o',es,ha,_,_,hl,hr,hc⟩:=h.at_ hk;simp at ha;obtain⟨rfl,rfl⟩:=ha;exact⟨es,hl,fun x hx=>by rw[List.getElem?_eq_getElem hk] at hx;cases hx;exact hr,hc⟩
 let f:Nat→List Value:=fun k=>if hk':k<xs.length then (hk k hk').choose else []
 have hf:∀ k (hk':k<xs.length),f k=(hk k hk').choose:=fun k hk'=>by simp only[f];rw[dif_pos hk']
 refine⟨(List.range xs.length).map f,by simp,?_,?_,?_⟩
 ·intro x hx;simp only[List.mem_map,List.mem_range] at hx;obtain⟨k,hk',rfl⟩:=hx;rw[hf k hk'];exact⟨(hk k hk').choose_spec.1,ho ((hk k hk').choose_spec.2.1 _ (List.getElem?_eq_getElem hk'))⟩
 ·intro k y cs hy hcs;have hk':k<xs.length:=by
   rcases Nat.lt_or_ge k xs.length with h | h
   ·exact h
   ·rw[List.getElem?_eq_none h] at hy;cases hy
  simp[List.getElem?_range hk'] at hcs;subst hcs;rw[hf k hk'];exact(hk k hk').choose_spec.2.1 y hy
 ·intro j u hj;refine⟨_,rfl,?_⟩;have hall:∀ x∈(List.range xs.length).map f,x.length=sz:=by
   intro x hx;simp only[List.mem_map,List.mem_range] at hx;obtain⟨k,hk',rfl⟩:=hx;rw[hf k hk'];exact(hk k hk').choose_spec.1
  have hjl:j<xs.length*sz:=by
   have:=qz sz _ hall;rw[List.length_map,List.length_range] at this;rw[←this];rcases Nat.lt_or_ge j ((List.range xs.length).map f).flatten.length with h | h
   ·exact h
   ·rw[List.getElem?_eq_none h] at hj;cases hj
  have hq:j / sz<xs.length:=Nat.div_lt_of_lt_mul (by rw[Nat.mul_comm];exact hjl);have hr:j % sz<sz:=Nat.mod_lt _ h0;have hjd:j / sz*sz+j % sz=j:=Nat.div_add_mod' j sz;have:=oD ((List.range xs.length).map f) sz (j / sz) (j % sz) (f (j / sz)) hall (by simp[List.getElem?_range hq]) hr;rw[hjd,hj] at this;rw[hf _ hq] at this;have hc:=(hk _ hq).choose_spec.2.2.at_ (j % sz) this.symm;have hadd:(⟨g,o,none⟩:Addr).add j=⟨g,o+j / sz*sz+j % sz,none⟩:=by
   rw[Nat.add_assoc,hjd];unfold Addr.add;split <;> simp_all
  rw[hadd];exact hc
theorem Ew (w:World){t ty e sz by_ base:Nat}{v:Value}{xs ys:List α}{A:Option Addr}{c:Nat}(hi:dK P t e sz by_)(hR:Fair R)
  (hown:Own base e sz R T w v xs) (hsrc:Src sz R T w A ys) (hT:∀ g,T g→g<w.heap.size) (hb:(xs.length+ys.length)*by_≤140737488355328) (hbase:base≤w.heap.size) :
  ∃ v' w',(Builtin.append_ #[t,t] ty #[v,.slice A ys.length c]).run P w=.ok v' w'∧Own base e sz R T w' v' (xs++ys)∧w.grownBy w' v.ownBlock∧(v'.ownBlock=v.ownBlock∨v'.ownBlock=some w.heap.size):=by
 obtain⟨ht,h0,hby,i,z,hi1,hz,hs,hbb,hzs⟩:=hi;obtain⟨css,ho1,ho2,ho3,ho4⟩:=hown;obtain⟨ds,hd1,hd2,hd3,hd4⟩:=hsrc;have hlen:ds.flatten.length=ys.length*sz:=by rw[qz sz ds (fun x hx=>(hd2 x hx).1),hd1]
 have hone:∀ u∈ds.flatten,u.oneCell'=true:=by
  intro u hu;obtain⟨l,hl,hu⟩:=List.mem_flatten.1 hu;exact(hd2 l hl).2 u hu
 have hle:xs.length+ys.length≤maxLen:=by
  have:(xs.length+ys.length)*1≤(xs.length+ys.length)*by_:=Nat.mul_le_mul_left _ hby;unfold maxLen;omega
 have fin:∀ v' w',w'.ownsRow base e sz v' (xs.length+ys.length) (css.flatten++ds.flatten)→w.grownBy w' v.ownBlock→(v'.ownBlock=v.ownBlock∨v'.ownBlock=some w.heap.size)→Own base e sz R T w' v' (xs++ys):=by
  intro v' w' h1 h2 h3;refine⟨css++ds,by rw[List.length_append,List.flatten_append];exact h1,by simp[ho2,hd1],?_,?_⟩
  ·intro k hk;rcases h3 with h3 | h3
   ·exact ho3 k (h3 ▸ hk)
   ·rw[h3] at hk;simp at hk;subst hk;intro hk;have:=hT _ hk;omega
  ·intro k x cs hx hc;have hkeep:az T w w':=az.bH h2 (fun k hk=>ho3 k hk)
   by_cases hk:k<xs.length
   ·rw[List.getElem?_append_left hk] at hx;rw[List.getElem?_append_left (by omega)] at hc;exact⟨(ho4 k x cs hx hc).1,hR.keep (ho4 k x cs hx hc).2 hkeep⟩
   ·rw[List.getElem?_append_right (by omega)] at hx;rw[List.getElem?_append_right (by omega),ho2] at hc;exact⟨(hd2 cs (List.mem_of_getElem? hc)).1,hR.keep (hd3 _ x cs hx hc) hkeep⟩
 rcases A with _ | ad
 ·have hy:ys.length=0:=by
   rcases Nat.eq_zero_or_pos ys.length with h | h
   ·exact h
   ·have hp:0<ds.flatten.length:=by rw[hlen];exact Nat.mul_pos h h0
    obtain⟨ad,h,_⟩:=hd4 0 _ (List.getElem?_eq_getElem hp);cases h
  have hy':ys=[]:=List.eq_nil_of_length_eq_zero hy;subst hy';have hr:(Builtin.append_ #[t,t] ty #[v,.slice none 0 c]).run P w=.ok v w:=by
   rcases ho1.2 with ⟨rfl,hx0⟩ | ⟨g,cap,cur,rfl,_,_,hnc,_⟩
   ·simp[Builtin.append_,run_underlying ht,sizeOf,typeInfo,hi1,Builtin.lenOf,Builtin.firstCells]
   ·simp[Builtin.append_,run_underlying ht,sizeOf,typeInfo,hi1,Builtin.lenOf,Builtin.firstCells,hnc,storeCells]
  have hds:ds=[]:=List.eq_nil_of_length_eq_zero (by simpa using hd1);subst hds;exact⟨v,w,by simpa using hr,by simpa using fin v w (by simpa using ho1) (World.grownBy.refl w _) (.inl rfl),World.grownBy.refl w _,.inl rfl⟩
 ·obtain⟨v',w',hrun,h2,h3,_,h5⟩:=run_append_own_at (P:=P) w base t ty e i z sz by_ ht hi1 hz hs hbb hzs h0 v xs.length css.flatten ho1 ad ys.length c ds.flatten hlen
   (fun j u hu=>by obtain⟨ad',h,hc⟩:=hd4 j u hu;cases h;exact hc) hone hle hb hbase
  exact⟨v',w',hrun,fin v' w' h2 h3 h5,h3,h5⟩
theorem bv {ops:Array Oper}{rest:List Oper}{o:Oper}{a:Act}{Q:Exit→Act→World→Prop}(w:World)(hgd:o.guard=none)(s x:Operand){t e sz by_ base:Nat}{v:Value}{xs ys:List α}{A:Option Addr}{c:Nat}
  (ho:o.op=.call { callee:=.builtin .append,args:=#[s,x],argTypes:=#[t,t] }) (hi:dK P t e sz by_) (hR:Fair R) (hs:a.eval s=v) (hx:a.eval x=.slice A ys.length c)
  (hown:Own base e sz R T w v xs) (hsrc:Src sz R T w A ys) (hT:∀ g,T g→g<w.heap.size) (hb:(xs.length+ys.length)*by_≤140737488355328) (hbase:base≤w.heap.size)
  (h:∀ v' w',Own base e sz R T w' v' (xs++ys)→w.grownBy w' v.ownBlock→(v'.ownBlock=v.ownBlock∨v'.ownBlock=some w.heap.size)→wpList P ops Q rest (a.put o.dst v') w'):wpList P ops Q (o::rest) a w :=
 wpList_plain hgd fun _ hK=>by
  obtain⟨v',w',hrun,h2,h3,h4⟩:=Ew (P:=P) w (ty:=o.type) (c:=c) hi hR hown hsrc hT hb hbase;unfold Oper.wp execOp;simp only[ho,resolve,invoke,builtin,Sem.run_bind,Sem.run_pure,Result.andThen_ok,List.map_toArray,List.map_cons,List.map_nil,hs,hx,hrun];exact hK _ _ (h v' w' h2 h3 h4)
theorem Own.read {base e sz by_:Nat}{v:Value}{xs:List α}{S:Nat→Prop}(hR:Fair R)(h:Own base e sz R T w v xs)(hT:∀ g,T g→g<w.heap.size→S g)(hv:∀ k,v.ownBlock=some k→S k)
  (hcap:xs.length*by_≤140737488351232):RSl sz by_ R S w [v] xs:=by
 obtain⟨css,h1,h2,h3,h4⟩:=h;rcases h1.2 with ⟨rfl,hn⟩ | ⟨g,cap,cur,rfl,hb,hg,hnc,hcm,hcs,htk⟩
 ·have:xs=[]:=List.eq_nil_of_length_eq_zero hn;subst this;exact RSl.dJ
 ·refine⟨_,cap,rfl,hnc,hcap,fun k x hx=>?_⟩;have hk:k<xs.length:=by
   rcases Nat.lt_or_ge k xs.length with h | h
   ·exact h
   ·rw[List.getElem?_eq_none h] at hx;cases hx
  have hc:css[k]? = some (css[k]'(by omega)):=List.getElem?_eq_getElem (by omega);obtain⟨hl,hr⟩:=h4 k x _ hx hc;refine⟨g,0,_,rfl,hv g rfl,(Array.getElem?_eq_some_iff.1 hg).1,hl,hR.mono hr hT,fun j hj=>?_⟩;have hall:∀ x∈css,x.length=sz:=by
   intro c hc;obtain⟨i,hi,rfl⟩:=List.getElem_of_mem hc;exact(h4 i (xs[i]'(by omega)) _ (List.getElem?_eq_getElem (by omega)) (List.getElem?_eq_getElem hi)).1
  have hfl:=oD css sz k j _ hall hc (by omega);have hv':(css[k]'(by omega))[j]? = some ((css[k]'(by omega))[j]):=List.getElem?_eq_getElem hj;rw[hv'] at hfl;have:=h1.cells (g:=g) rfl (k*sz+j) _ hfl;have hadd:(⟨g,0,none⟩:Addr).add (k*sz+j)=⟨g,0+k*sz+j,none⟩:=by unfold Addr.add;split <;> simp_all
  rw[hadd] at this;rw[this,hv']
end
def NoT:Nat→Prop:=fun _=>False
theorem NoT.lt (w:World):∀ g,NoT g→g<w.heap.size:=fun _ h=>h.elim
def Ret (w:World)(v:Value)(e:Ending)(w':World):Prop:=e=.returned v∧Below w.heap.size w w'
def Box (w:World)(g:Nat)(t:TypeId)(cs:List Value):Prop:=w.heap[g]? = some (.cells cs.toArray t (0,0))
section
variable {w w':World}{g:Nat}{t:TypeId}{cs:List Value}
theorem Box.lt (h:Box w g t cs):g<w.heap.size:=(Array.getElem?_eq_some_iff.1 h).1
theorem Box.cell (h:Box w g t cs)(i:Nat):w.cell? ⟨g,i,none⟩=cs[i]? := by rw[cell_of_row w g i cs.toArray t (0,0) h];simp
theorem Box.c (h:Box w g t cs)(i:Nat){v:Value}(e:cs[i]? = some v):LL w g i v:=(h.cell i).trans e
theorem Box.frozen (h:Box w g t cs)(i:Nat):w.frozen? ⟨g,i,none⟩=false:=by unfold Box at h;simp[World.frozen?,h]
theorem Box.new (w:World)(t:TypeId)(cs:List Value):Box (w.alloc (.cells cs.toArray t)) w.heap.size t cs:=heap_alloc_new w _
theorem Box.keep {S:Nat→Prop}(h:Box w g t cs)(hk:az S w w')(hs:S g):Box w' g t cs:=(hk.2 g hs h.lt).trans h
theorem Box.below {B:Nat}(h:Box w g t cs)(hb:Below B w w')(hg:g<B):Box w' g t cs:=(hb.block g hg).trans h
theorem Box.grown {row:Option Nat}(h:Box w g t cs)(hb:w.grownBy w' row)(hg:row≠some g):Box w' g t cs:=(hb.block g h.lt (fun e=>hg e.symm)).trans h
theorem Box.alloc (h:Box w g t cs)(o:Obj):Box (w.alloc o) g t cs:=(Below.heap_alloc w o g h.lt).trans h
theorem Box.gB (h:Box w g t cs)(i:Nat)(u:Value):Box (w.setCell ⟨g,i,none⟩ u) g t (cs.set i u):=by
 unfold Box at h ⊢;simp[World.setCell,Array.getElem?_modify,h]
theorem Box.far (h:Box w g t cs){p:Addr}(hp:g≠p.block)(u:Value):Box (w.setCell p u) g t cs:=(Below.heap_setCell w p u g hp).trans h
theorem Box.drew (h:Box w g t cs):Box w.drew g t cs:=h
theorem Box.drewN (h:Box w g t cs)(n:Nat):Box (w.drewN n) g t cs:=h
theorem Box.rr5 {a b c d e:Value}(h:Box w g t [a,b,c,d,e]):LL w g 0 a∧LL w g 1 b∧LL w g 2 c∧LL w g 3 d∧LL w g 4 e∧w.frozen? ⟨g,0,none⟩=false∧w.frozen? ⟨g,1,none⟩=false∧w.frozen? ⟨g,2,none⟩=false∧w.frozen? ⟨g,3,none⟩=false∧w.frozen? ⟨g,4,none⟩=false∧g<w.heap.size :=
 ⟨h.cell 0,h.cell 1,h.cell 2,h.cell 3,h.cell 4,h.frozen 0,h.frozen 1,h.frozen 2,h.frozen 3,h.frozen 4,h.lt⟩
theorem Box.gV {α:Type}{R:Rel α}{base e sz:Nat}{T:Nat→Prop}{v:Value}{xs:List α}(h:Box w g t cs)(ho:Own base e sz R T w v xs)(hne:e≠t):v.ownBlock≠some g:=by
 obtain⟨css,h1,_⟩:=ho;rcases h1.2 with ⟨rfl,_⟩ | ⟨g',cap,cur,rfl,_,hh,_⟩
 ·simp[Value.ownBlock]
 ·intro he;have:g'=g:=by simpa[Value.ownBlock] using he
  subst this;unfold Box at h;rw[hh] at h;injection h with h
  injection h with _ ht
  exact hne ht
end
theorem below_grown {B:Nat}{a b c:World}{row:Option Nat}(h:Below B a b)(k:b.grownBy c row)(hB:B≤b.heap.size)(hr:∀ g,row=some g→B≤g):Below B a c:=h.grown k hB hr
theorem aa {B:Nat}{a b c:World}(h:Below B a b)(k:Below b.heap.size b c)(hB:B≤b.heap.size):Below B a c:=h.trans (k.mono hB)
theorem Own.below {α:Type}{R:Rel α}{base e sz:Nat}{T:Nat→Prop}{w w':World}{v:Value}{xs:List α}(hR:Fair R)(h:Own base e sz R T w v xs)(hb:Below w.heap.size w w'):Own base e sz R T w' v xs :=
 h.kept hR (row:=none) (aK hb none) (by cases hv:v.ownBlock <;> simp) (by simp)
theorem Own.form {α:Type}{R:Rel α}{base e sz:Nat}{T:Nat→Prop}{w:World}{v:Value}{xs:List α}(h:Own base e sz R T w v xs):∃ A cap,v=.slice A xs.length cap∧xs.length≤cap:=by
 obtain⟨css,h1,_⟩:=h;rcases h1.2 with ⟨rfl,h0⟩ | ⟨g,cap,cur,rfl,_,_,hc,_⟩
 ·exact⟨none,0,by rw[h0],by omega⟩
 ·exact⟨_,cap,rfl,hc⟩
theorem Own.drew {α:Type}{R:Rel α}{base e sz:Nat}{T:Nat→Prop}{w:World}{v:Value}{xs:List α}(hR:Fair R)(h:Own base e sz R T w v xs):Own base e sz R T w.drew v xs :=
 h.kept hR (row:=none) ⟨rfl,rfl,rfl,Nat.le_refl _,fun _ _ _=>rfl⟩ (by cases hv:v.ownBlock <;> simp) (by simp)
theorem au {B:Nat}{a w:World}(h:Below B a w):Below B a w.drew:=h.drew
theorem below_drewN {B:Nat}{a w:World}(h:Below B a w)(n:Nat):Below B a (w.drewN n):=⟨h.os,h.tape,h.output,h.size,h.block⟩
section
variable {α:Type}{P:Program}{R:Rel α}{T:Nat→Prop}
theorem afZ {o:Oper}{a:Act}{K:Act→World→Prop}{Q:Exit→Act→World→Prop}(w:World)(s x:Operand){t e sz by_ base:Nat}{v:Value}{xs ys:List α}{A:Option Addr}{c:Nat}
  (ho:o.op=.call { callee:=.builtin .append,args:=#[s,x],argTypes:=#[t,t] }) (hi:dK P t e sz by_) (hR:Fair R) (hs:a.eval s=v) (hx:a.eval x=.slice A ys.length c)
  (hown:Own base e sz R T w v xs) (hsrc:Src sz R T w A ys) (hT:∀ g,T g→g<w.heap.size) (hb:(xs.length+ys.length)*by_≤140737488355328) (hbase:base≤w.heap.size)
  (h:∀ v' w',Own base e sz R T w' v' (xs++ys)→w.grownBy w' v.ownBlock→(v'.ownBlock=v.ownBlock∨v'.ownBlock=some w.heap.size)→K (a.put o.dst v') w'):o.wp P a w K Q:=by
 obtain⟨v',w',hrun,h2,h3,h4⟩:=Ew (P:=P) w (ty:=o.type) (c:=c) hi hR hown hsrc hT hb hbase;unfold Oper.wp execOp;simp only[ho,resolve,invoke,builtin,Sem.run_bind,Sem.run_pure,Result.andThen_ok,List.map_toArray,List.map_cons,List.map_nil,hs,hx,hrun];exact h v' w' h2 h3 h4
theorem dM {ops:Array Oper}{o:Oper}{a:Act}{K:Act→World→Prop}{Q:Exit→Act→World→Prop}{E:Prop}(w:World)(hgd:o.guard=none)(s x:Operand){t e sz by_ base:Nat}{v:Value}{xs ys:List α}{A:Option Addr}{c:Nat}
  (ho:o.op=.call { callee:=.builtin .append,args:=#[s,x],argTypes:=#[t,t] }) (hi:dK P t e sz by_) (hR:Fair R) (hs:a.eval s=v) (hx:a.eval x=.slice A ys.length c)
  (hown:Own base e sz R T w v xs) (hsrc:Src sz R T w A ys) (hT:∀ g,T g→g<w.heap.size) (hb:(xs.length+ys.length)*by_≤140737488355328) (hbase:base≤w.heap.size)
  (h:∀ v' w',Own base e sz R T w' v' (xs++ys)→w.grownBy w' v.ownBlock→(v'.ownBlock=v.ownBlock∨v'.ownBlock=some w.heap.size)→K (a.put o.dst v') w') :
  if Region.wanted o (yielded ops a.tmps)=true then Oper.wp P o a w K Q else E:=by
 rw[if_pos (show Region.wanted o (yielded ops a.tmps)=true by simp[Region.wanted,hgd])];exact afZ w s x ho hi hR hs hx hown hsrc hT hb hbase h
end
theorem RSl.rP {α:Type}{sz by_:Nat}{R:Rel α}{S:Nat→Prop}{w:World}{g e cap:Nat}{css:List (List Value)}{xs:List α}(h:Box w g e css.flatten)(hl:css.length=xs.length)(hs:S g)(hc:xs.length≤cap)(hb:xs.length*by_≤140737488351232)
  (hr:∀ (k:Nat) (x:α) (cs:List Value),xs[k]? = some x→css[k]? = some cs→cs.length=sz∧R S w cs x):RSl sz by_ R S w [.slice (some ⟨g,0,none⟩) xs.length cap] xs:=by
 refine⟨_,cap,rfl,hc,hb,fun k x hx=>?_⟩;have hk:k<xs.length:=by
  rcases Nat.lt_or_ge k xs.length with h | h
  ·exact h
  ·rw[List.getElem?_eq_none h] at hx;cases hx
 have hcs:css[k]? = some (css[k]'(by omega)):=List.getElem?_eq_getElem (by omega);obtain⟨h1,h2⟩:=hr k x _ hx hcs;have hall:∀ x∈css,x.length=sz:=by
  intro c hc;obtain⟨i,hi,rfl⟩:=List.getElem_of_mem hc;exact(hr i (xs[i]'(by omega)) _ (List.getElem?_eq_getElem (by omega)) (List.getElem?_eq_getElem hi)).1
 refine⟨g,0,_,rfl,hs,h.lt,h1,h2,fun j hj=>?_⟩;have hfl:=oD css sz k j _ hall hcs (by omega);rw[show (0+k*sz+j)=k*sz+j from by omega,h.cell,hfl]
theorem RSl.mD {α:Type}{sz by_:Nat}{enc:α→List Value}{S:Nat→Prop}{w:World}{g e cap:Nat}{xs:List α}(h:Box w g e (xs.map enc).flatten)(hs:S g)(hc:xs.length≤cap)(hb:xs.length*by_≤140737488351232)
  (hr:∀ x∈xs,(enc x).length=sz):RSl sz by_ (dS enc) S w [.slice (some ⟨g,0,none⟩) xs.length cap] xs :=
 RSl.rP (css:=xs.map enc) h (by simp) hs hc hb (fun k x cs hx hcs=>by
  simp[List.getElem?_map,hx] at hcs;subst hcs;exact⟨hr x (List.mem_of_getElem? hx),rfl⟩)
def Old (w:World):Nat→Prop:=fun g=>g<w.heap.size
theorem Fair.old {α:Type}{R:Rel α}(hR:Fair R){S:Nat→Prop}{w:World}{cs:List Value}{x:α}(h:R S w cs x):R (Old w) w cs x:=hR.mono h fun _ _ hg=>hg
theorem Fair.below {α:Type}{R:Rel α}(hR:Fair R){S:Nat→Prop}{w w':World}{cs:List Value}{x:α}(h:R S w cs x)(hb:Below w.heap.size w w'):R S w' cs x:=hR.keep h (az.of_below hb)
theorem Own.setCell {α:Type}{R:Rel α}{base e sz:Nat}{T:Nat→Prop}{w:World}{v:Value}{xs:List α}(hR:Fair R)(h:Own base e sz R T w v xs){p:Addr}(u:Value)(hv:v.ownBlock≠some p.block)(hT:¬ T p.block):Own base e sz R T (w.setCell p u) v xs :=
 h.kept hR (row:=some p.block) (iV (World.grownBy.refl _ _) (.inl rfl) u) (.inr hv) (by rintro k hk;cases hk;exact hT)
def acf (w:World)(g:Nat):Nat:=match w.cell? ⟨g,0,none⟩ with | some (.string s)=>s.size | _=>0
theorem wT {w:World}{g:Nat}{s:ByteArray}(h:LL w g 0 (.string s)):acf w g=s.size:=by unfold acf;rw[h]
end
section
open Go.RowKit Go.Lib
abbrev bytes (s:ByteArray):List UInt8:=s.data.toList
def nW:Rel UInt8:=dS fun b=>[.int .u8 b.toNat]
theorem nW.fair:Fair nW:=dS.fair _
theorem zH (s:ByteArray)(a b:Nat):bytes (s.extract a b)=((bytes s).drop a).take (b-a):=by
 simp only[bytes,ByteArray.data_extract,Array.toList_extract]
theorem uK (s:ByteArray)(a:Nat):bytes (s.extract a s.size)=(bytes s).drop a:=by
 rw[zH,List.take_of_length_le];simp[bytes]
theorem Rm (s:ByteArray)(b:Nat):bytes (s.extract 0 b)=(bytes s).take b:=by
 rw[zH];simp
theorem qb {s:ByteArray}{l:List UInt8}(h:bytes s=l):s=⟨l.toArray⟩:=by
 subst h;obtain⟨⟨l⟩⟩:=s;rfl
theorem iY (s:ByteArray):(bytes s).length=s.size:=rfl
theorem sU (l:List UInt8):bytes ⟨l.toArray⟩=l:=rfl
def tu (b:UInt8):Value:=.int .u8 b.toNat
theorem DC:∀ xs:List UInt8,(xs.map fun b=>[tu b]).flatten=xs.map tu
 | []=>rfl
 | x::xs=>by simp[DC xs]
theorem Cx {base e:Nat}{T:Nat→Prop}{w:World}{v:Value}{xs:List UInt8}(h:Own base e 1 nW T w v xs) :
  w.ownsRow base e 1 v xs.length (xs.map tu)∧(∀ k,v.ownBlock=some k→¬ T k):=by
 obtain⟨css,h1,h2,h3,h4⟩:=h;have hf:css.flatten=xs.map tu:=by
  have:css=xs.map fun b=>[tu b]:=by
   apply List.ext_getElem
   ·simp[h2]
   ·intro k hk1 hk2;have:=(h4 k (xs[k]'(by omega)) css[k] (List.getElem?_eq_getElem (by omega)) (List.getElem?_eq_getElem hk1)).2;simp[nW,dS] at this;simp[this,tu]
  rw[this,DC]
 rw[hf] at h1;exact⟨h1,h3⟩
theorem Xo {base e:Nat}{T:Nat→Prop}{w:World}{v:Value}{xs:List UInt8}(h:w.ownsRow base e 1 v xs.length (xs.map tu))(h3:∀ k,v.ownBlock=some k→¬ T k):Own base e 1 nW T w v xs:=by
 refine⟨xs.map fun b=>[tu b],?_,by simp,h3,?_⟩
 ·rw[DC];exact h
 ·intro k x cs hx hc;simp[List.getElem?_map,hx] at hc;subst hc;exact⟨rfl,rfl⟩
section
variable {P:Program}(w:World)
theorem Dr {t u ty e base:Nat}{T:Nat→Prop}{v:Value}{xs:List UInt8}(hi:dK P t e 1 1)(hz:(P.info? e).bind (·.zero)=some (.int .u8 0))(hu:P.underlying u=some .string)
  (hown:Own base e 1 nW T w v xs) (s:ByteArray) (hT:∀ g,T g→g<w.heap.size) (hb:xs.length+s.size≤140737488355328) (hbase:base≤w.heap.size) :
  ∃ v' w',(Builtin.append_ #[t,u] ty #[v,.string s]).run P w=.ok v' w'∧Own base e 1 nW T w' v' (xs++bytes s)∧w.grownBy w' v.ownBlock∧(v'.ownBlock=v.ownBlock∨v'.ownBlock=some w.heap.size):=by
 obtain⟨ht,_,_,i,z,hi1,hz1,hs1,hby,hzs⟩:=hi;have hz0:z=.int .u8 0:=by
  rw[hi1] at hz;simp[hz1] at hz;exact hz
 subst hz0;obtain⟨h1,h3⟩:=Cx hown;have hsb:strCells s=(bytes s).map tu:=rfl;have hsz:s.size=(bytes s).length:=rfl;have hml:xs.length+s.size≤maxLen:=by unfold maxLen;omega
 have mk:∀ v' w',w'.ownsRow base e 1 v' (xs.length+s.size) (xs.map tu++strCells s)→(v'.ownBlock=v.ownBlock∨v'.ownBlock=some w.heap.size)→Own base e 1 nW T w' v' (xs++bytes s):=by
  intro v' w' h h';refine Xo (by rw[List.length_append,List.map_append,←hsz,←hsb];exact h) fun k hk=>?_
  rcases h' with h' | h'
  ·exact h3 k (h' ▸ hk)
  ·rw[h'] at hk;cases hk;intro hk;have:=hT _ hk;omega
 have grown:∀ (old:Nat),old<xs.length+s.size→∀ (row:Option Nat),
   (w.drew.alloc (.cells ((xs.map tu).toArray++(strCells s).toArray++Builtin.zeroCells (Value.int .u8 0).cells (grownCap w (xs.length+s.size) old e-(xs.length+s.size))) e)).ownsRow base e 1
    (.slice (some ⟨w.heap.size,0,none⟩) (xs.length+s.size) (grownCap w (xs.length+s.size) old e)) (xs.length+s.size) (xs.map tu++strCells s) ∧
   w.grownBy (w.drew.alloc (.cells ((xs.map tu).toArray++(strCells s).toArray++Builtin.zeroCells (Value.int .u8 0).cells (grownCap w (xs.length+s.size) old e-(xs.length+s.size))) e)) row:=by
  intro old _ row;have hge:=grownCap_ge w (xs.length+s.size) old e;have hlen:(xs.map tu++strCells s).length=(xs.length+s.size)*1:=by rw[List.length_append,strCells_length,List.length_map,Nat.mul_one]
  refine⟨⟨hlen,.inr ⟨w.heap.size,_,_,rfl,hbase,heap_alloc_new w.drew _,hge,grownCap_le_maxLen w _ old e hml,?_,?_⟩⟩,⟨rfl,rfl,rfl,by simp,fun k hk _=>Below.heap_alloc w.drew _ k hk⟩⟩
  ·have hz1:(Value.int IntKind.u8 0).cells.size=1:=rfl;simp only[Array.size_append,List.size_toArray,size_zeroCells,hz1,strCells_length,List.length_map];omega
  ·simp only[Array.toList_append,List.append_assoc];rw[←List.append_assoc,←hlen];exact List.take_left
 rcases h1.2 with ⟨rfl,hx0⟩ | ⟨g,cap,cur,rfl,hbg,hg,hnc,hcm,hcs,htake⟩
 ·have hx:xs=[]:=List.eq_nil_of_length_eq_zero hx0;subst hx
  by_cases hm:s.size=0
  ·have hn:strCells s=[]:=List.eq_nil_of_length_eq_zero (by rw[strCells_length];exact hm);refine⟨Z0,w,?_,mk _ _ (by rw[hm,hn];exact World.ownsRow_nil w base e 1) (.inl rfl),World.grownBy.refl w _,.inl rfl⟩;have hf:=run_firstCells_string (P:=P) w 1 s;rw[hm] at hf;simp[Builtin.append_,run_underlying ht,run_underlying hu,sizeOf,typeInfo,hi1,hs1,Builtin.lenOf,hm,hf]
  ·have hr:=run_append_nil_string (P:=P) w t u ty e i (.int .u8 0) ht hu hi1 hz1 s (by omega) (by omega) (by rw[hby];simp at hb;omega);have hgr:=grown 0 (by simp;omega) (Value.ownBlock (Z0));simp only[List.length_nil,Nat.zero_add,List.nil_append,Array.empty_append,List.map_nil] at hgr;have e1:(s.data.map fun b=>Value.int .u8 b.toNat)=(strCells s).toArray:=by
    apply Array.ext';simp[strCells]
   rw[e1] at hr;exact⟨_,_,hr,mk _ _ (by simpa using hgr.1) (.inr rfl),hgr.2,.inr rfl⟩
 ·by_cases hroom:xs.length+s.size≤cap
  ·have hcs':cur.size=cap:=by simpa using hcs
   have hr:=run_append_room_string (P:=P) w t u ty e i ht hu hi1 hs1 g xs.length cap cur hg s hroom (by omega);refine⟨_,_,hr,mk _ _ ⟨by rw[List.length_append,strCells_length,List.length_map,Nat.mul_one],.inr ⟨g,cap,_,rfl,hbg,setRow_heap w g cur _ e _ hg,hroom,hcm,?_,?_⟩⟩ (.inl rfl),⟨rfl,rfl,rfl,by simp,fun k _ hk=>setRow_other w g k _ (fun e=>hk (by simp[Value.ownBlock,e]))⟩,.inl rfl⟩
   ·simp only[List.size_toArray,List.length_append,List.length_take,List.length_drop,Array.length_toList,strCells_length];omega
   ·have ht':cur.toList.take xs.length=xs.map tu:=by simpa using htake
    have hlen:(xs.map tu++strCells s).length=(xs.length+s.size)*1:=by rw[List.length_append,strCells_length,List.length_map,Nat.mul_one]
    rw[ht',←hlen];exact List.take_left
  ·have holds:∀ j u,(xs.map tu)[j]? = some u→w.cell? ((⟨g,0,none⟩:Addr).add j)=some u:=h1.cells (g:=g) rfl;have hr:=run_append_grow_string (P:=P) w t u ty e i (.int .u8 0) ht hu hi1 hz1 ⟨g,0,none⟩ xs.length cap (xs.map tu) (by rw[hs1];simp) holds s (by omega) (by omega) (by rw[hby];exact growslice_fits (by omega) (by omega));have hgr:=grown cap (by omega) (Value.ownBlock (.slice (some ⟨g,0,none⟩) xs.length cap));exact⟨_,_,hr,mk _ _ hgr.1 (.inr rfl),hgr.2,.inr rfl⟩
theorem NQ {ops:Array Oper}{o:Oper}{a:Act}{K:Act→World→Prop}{Q:Exit→Act→World→Prop}{E:Prop}(w:World)(hgd:o.guard=none)(sl x:Operand){t u e base:Nat}{T:Nat→Prop}{v:Value}{xs:List UInt8}{s:ByteArray}
  (ho:o.op=.call { callee:=.builtin .append,args:=#[sl,x],argTypes:=#[t,u] }) (hi:dK P t e 1 1) (hz:(P.info? e).bind (·.zero)=some (.int .u8 0)) (hu:P.underlying u=some .string) (hs:a.eval sl=v) (hx:a.eval x=.string s)
  (hown:Own base e 1 nW T w v xs) (hT:∀ g,T g→g<w.heap.size) (hb:xs.length+s.size≤140737488355328) (hbase:base≤w.heap.size)
  (h:∀ v' w',Own base e 1 nW T w' v' (xs++bytes s)→w.grownBy w' v.ownBlock→(v'.ownBlock=v.ownBlock∨v'.ownBlock=some w.heap.size)→K (a.put o.dst v') w') :
  if Region.wanted o (yielded ops a.tmps)=true then Oper.wp P o a w K Q else E:=by
 rw[if_pos (show Region.wanted o (yielded ops a.tmps)=true by simp[Region.wanted,hgd])];obtain⟨v',w',hrun,h2,h3,h4⟩:=Dr (P:=P) w (ty:=o.type) hi hz hu hown s hT hb hbase;unfold Oper.wp execOp;simp only[ho,resolve,invoke,builtin,Sem.run_bind,Sem.run_pure,Result.andThen_ok,List.map_toArray,List.map_cons,List.map_nil,hs,hx,hrun];exact h v' w' h2 h3 h4
theorem acX (xs:List UInt8):∀ s:ByteArray,(xs.map fun b=>(b.toNat:Int)).foldl (fun r n=>r.push (UInt8.ofNat n.toNat)) s=⟨(s.data.toList++xs).toArray⟩:=by
 induction xs with
 | nil=>intro s;simp
 | cons x xs ih =>
  intro s;simp only[List.map_cons,List.foldl_cons];rw[ih]
  congr 1
  simp[ByteArray.push]
theorem Tx {t u e base:Nat}{T:Nat→Prop}{v:Value}{xs:List UInt8}(ht:P.underlying t=some (.slice e))(he:P.underlying e=some (.int .u8))(hu:P.underlying u=some .string)
  (hown:Own base e 1 nW T w v xs):(convert t u v).run P w=.ok (.string ⟨xs.toArray⟩) w:=by
 obtain⟨h1,_⟩:=Cx hown;rcases h1.2 with ⟨rfl,hx0⟩ | ⟨g,cap,cur,rfl,hbg,hg,hnc,hcm,hcs,htake⟩
 ·have hx:xs=[]:=List.eq_nil_of_length_eq_zero hx0;subst hx;rw[run_convert_bytes_string w t u e _ _ _ ht he hu];rfl
 ·rw[run_convert_bytes_string w t u e _ _ _ ht he hu,run_bytesToString w _ _ _ (xs.map fun b=>(b.toNat:Int)),acX]
  ·simp
  ·have:=run_loadCells_list (P:=P) (w:=w) ⟨g,0,none⟩ (xs.map tu) (h1.cells (g:=g) rfl);rw[List.map_map];rw[List.length_map] at this;exact this
end
end
section
open Go.RowKit
def setCells (w:World)(g:Nat):Nat→List Value→World
 | _,[]=>w
 | i,v::vs=>setCells (w.setCell ⟨g,i,none⟩ v) g (i+1) vs
theorem Box.JF {g:Nat}{t:TypeId}:∀ (bs:List Value) (i:Nat) (w:World) (as cs:List Value),as.length=i→Box w g t (as++cs)→bs.length=cs.length→Box (setCells w g i bs) g t (as++bs)
 | [],i,w,as,cs,_,h,hl=>by
  have:cs=[]:=List.eq_nil_of_length_eq_zero (by simpa using hl.symm);subst this;exact h
 | b::bs,i,w,as,[],_,_,hl=>by simp at hl
 | b::bs,i,w,as,c::cs,hi,h,hl=>by
  have h1:=h.gB i b;have e:(as++c::cs).set i b=as++b::cs:=by subst hi;simp
  rw[e] at h1;have:=Box.JF bs (i+1) (w.setCell ⟨g,i,none⟩ b) (as++[b]) cs (by simp[hi]) (by simpa using h1) (by simpa using hl);simpa[setCells] using this
theorem Box.setCells {w:World}{g:Nat}{t:TypeId}{cs:List Value}(h:Box w g t cs)(bs:List Value)(hl:bs.length=cs.length):Box (setCells w g 0 bs) g t bs:=by
 have:=Box.JF bs 0 w [] cs rfl (by simpa using h) hl;simpa using this
theorem below_setCells {B g:Nat}{a:World}(hg:B≤g):∀ (bs:List Value) (i:Nat) (w:World),Below B a w→Below B a (setCells w g i bs)
 | [],_,_,h=>h
 | b::bs,i,w,h=>below_setCells hg bs (i+1) _ (h.setCell (p:=⟨g,i,none⟩) hg b)
theorem Below.here (w:World):Below w.heap.size w w:=Below.refl _ _
theorem kr {a b:Bool}(h:a=b):Ending.returned (.bool a)=.returned (.bool b):=by rw[h]
theorem iB {a b:Int}(h:a=b):Ending.returned (O a)=.returned (O b):=by rw[h]
section
variable {α:Type}{sz by_:Nat}{R:Rel α}{S:Nat→Prop}{w:World}{xs:List α}
theorem RSl.base {A:Option Addr}{n cap:Nat}(h:RSl sz by_ R S w [.slice A n cap] xs)(h0:0<xs.length):∃ g o,A=some ⟨g,o,none⟩∧S g∧g<w.heap.size:=by
 obtain⟨g,o,es,h1,h2,h3,_⟩:=h.at_ h0;exact⟨g,o,h1,h2,h3⟩
theorem RSl.lies {g o n cap:Nat}(h:RSl sz by_ R S w [.slice (some ⟨g,o,none⟩) n cap] xs){k:Nat}(hk:k<xs.length):∃ es,es.length=sz∧R S w es xs[k]∧ik w g (o+k*sz) es:=by
 obtain⟨g',o',es,h1,_,_,h4,h5,h6⟩:=h.at_ hk;simp only[Option.some.injEq,Addr.mk.injEq,and_true] at h1;obtain⟨rfl,rfl⟩:=h1;exact⟨es,h4,h5,h6⟩
theorem RSl.flat {enc:α→List Value}{g o n cap:Nat}(h:RSl sz by_ (dS enc) S w [.slice (some ⟨g,o,none⟩) n cap] xs){k:Nat}(hk:k<xs.length):ik w g (o+k*sz) (enc xs[k]):=by
 obtain⟨es,_,h2,h3⟩:=h.lies hk;have h2':es=enc xs[k]:=h2;rw[h2'] at h3;exact h3
end
end
section
open Go.RowKit
structure ay where
 id:Int
 name:ByteArray
 type:ByteArray
 kind:Int
 rule:Int
 deriving DecidableEq
structure dC where
 name:ByteArray
 n:Int
 deriving DecidableEq
structure ax where
 name:ByteArray
 enum:Bool
 fields:List ay
 gone:List Int
 items:List dC
 deriving DecidableEq
abbrev TT (t:ax)(A:Option Addr)(a:Nat)(B:Option Addr)(b:Nat)(C:Option Addr)(c:Nat):List Value:=[.string t.name,.bool t.enum,.slice A t.fields.length a,.slice B t.gone.length b,.slice C t.items.length c]
def ax.zero:ax:=⟨⟨#[]⟩,false,[],[],[]⟩
def ay.zero:ay:=⟨0,⟨#[]⟩,⟨#[]⟩,0,0⟩
abbrev av:=List ax
def aI (f:ay):List Value:=(FF f.id f.name f.type f.kind f.rule)
def aH:Rel ay:=dS aI
theorem aH.fair:Fair aH:=dS.fair _
def dD (x:dC):List Value:=[.string x.name,O x.n]
def aO:Rel dC:=dS dD
theorem aO.fair:Fair aO:=dS.fair _
def ah:Rel ax:=fun S w cs t=>∃ vf vg vi,cs=[.string t.name,.bool t.enum,vf,vg,vi]∧RSl 5 56 aH S w [vf] t.fields∧RSl 1 8 aQ S w [vg] t.gone∧RSl 2 24 aO S w [vi] t.items
theorem ah.fair:Fair ah:=⟨by
  rintro S w w' cs t ⟨vf,vg,vi,h,a,b,c⟩ hk;exact⟨vf,vg,vi,h,(RSl.fair aH.fair).keep a hk,(RSl.fair aQ.fair).keep b hk,(RSl.fair aO.fair).keep c hk⟩,by
  rintro S T w cs t ⟨vf,vg,vi,h,a,b,c⟩ hk;exact⟨vf,vg,vi,h,(RSl.fair aH.fair).mono a hk,(RSl.fair aQ.fair).mono b hk,(RSl.fair aO.fair).mono c hk⟩⟩
theorem ah.zero {S:Nat→Prop}{w:World}:ah S w [E0,.bool false,Z0,Z0,Z0] .zero :=
 ⟨_,_,_,rfl,RSl.dJ,RSl.dJ,RSl.dJ⟩
theorem ah.parts {S:Nat→Prop}{w:World}{cs:List Value}{t:ax}(h:ah S w cs t) :
  ∃ A1 c1 A2 c2 A3 c3,cs=[.string t.name,.bool t.enum,.slice A1 (t.fields).length c1,.slice A2 t.gone.length c2,.slice A3 t.items.length c3] ∧
   RSl 5 56 aH S w [.slice A1 (t.fields).length c1] t.fields∧RSl 1 8 aQ S w [.slice A2 t.gone.length c2] t.gone∧RSl 2 24 aO S w [.slice A3 t.items.length c3] t.items:=by
 obtain⟨vf,vg,vi,rfl,a,b,c⟩:=h;obtain⟨A1,c1,rfl,_,_⟩:=a.form;obtain⟨A2,c2,rfl,_,_⟩:=b.form;obtain⟨A3,c3,rfl,_,_⟩:=c.form;exact⟨A1,c1,A2,c2,A3,c3,rfl,a,b,c⟩
def aM (b:av)(name:ByteArray):Option ax:=b.find? fun t=>decide (t.name=name)
def aC (t:ax)(id:Int):Option ay:=t.fields.find? fun f=>decide (f.id=id)
theorem ba_eq (a b:ByteArray):(a.toList==b.toList)=decide (a=b):=by
 rw[ByteArray.toList_eq,ByteArray.toList_eq,Bool.eq_iff_iff];obtain⟨⟨a⟩⟩:=a;obtain⟨⟨b⟩⟩:=b;simp
theorem Box.fq {g g':Nat}{t:TypeId}{cs:List Value}(hg:g≠g'):∀ (bs:List Value) (i:Nat) {w:World},Box w g t cs→Box (Go.Proofs.YtknnhpkjgnkcdaaGreatDoor.setCells w g' i bs) g t cs
 | [],_,_,h=>h
 | b::bs,i,_,h=>Box.fq hg bs (i+1) (h.far (p:=⟨g',i,none⟩) hg b)
theorem Box.five {w:World}{g:Nat}{t:TypeId}{a b c d e:Value}(h:Box w g t [a,b,c,d,e]) :
  LL w g 0 a∧LL w g 1 b∧LL w g 2 c∧LL w g 3 d∧LL w g 4 e :=
 ⟨h.cell 0,h.cell 1,h.cell 2,h.cell 3,h.cell 4⟩
theorem Box.Cq {B:Nat}{a w:World}(_:Below B a w)(t:TypeId)(cs:List Value):Box (w.alloc (.cells cs.toArray t)) w.heap.size t cs:=Box.new w t cs
theorem Box.fU {α:Type}{R:Rel α}{base e sz g:Nat}{T:Nat→Prop}{w w':World}{v:Value}{xs:List α}{t:TypeId}{cs:List Value}(h:Box w g t cs)(ho:Own base e sz R T w v xs)(hc:g<base∨e≠t)(hg:w.grownBy w' v.ownBlock):Box w' g t cs :=
 h.grown hg (by
  rcases hc with hc | hc
  ·intro e;have:=(ho.lt e).1;omega
  ·exact h.gV ho hc)
theorem Box.lies {w:World}{g:Nat}{t:TypeId}{cs:List Value}(h:Box w g t cs):ik w g 0 cs:=fun j _=>by rw[Nat.zero_add];exact h.cell j
theorem az.setCells {S:Nat→Prop}{g:Nat}(hg:¬ S g):∀ (vs:List Value) (i:Nat) (w:World),az S w (setCells w g i vs)
 | [],_,w=>az.refl _ _
 | v::vs,i,w=>(az.setCell (S:=S) w (a:=⟨g,i,none⟩) v hg).trans (az.setCells hg vs (i+1) _)
section
variable (w:World)(a b c d:List Value)(ta tb tc td:TypeId)
theorem kZ:Box (w.alloc (.cells a.toArray ta)) w.heap.size ta a∧Below w.heap.size w (w.alloc (.cells a.toArray ta)) :=
 ⟨Box.new w ta a,(Below.refl _ _).alloc (Nat.le_refl _) _⟩
theorem bY:Box ((w.alloc (.cells a.toArray ta)).alloc (.cells b.toArray tb)) w.heap.size ta a∧Box ((w.alloc (.cells a.toArray ta)).alloc (.cells b.toArray tb)) (w.heap.size+1) tb b ∧
  Below w.heap.size w ((w.alloc (.cells a.toArray ta)).alloc (.cells b.toArray tb)):=by
 obtain⟨h1,h2⟩:=kZ w a ta;refine⟨h1.alloc _,?_,h2.alloc h2.size _⟩;have:=Box.new (w.alloc (.cells a.toArray ta)) tb b;simpa using this
theorem kW:Box (((w.alloc (.cells a.toArray ta)).alloc (.cells b.toArray tb)).alloc (.cells c.toArray tc)) w.heap.size ta a∧Box (((w.alloc (.cells a.toArray ta)).alloc (.cells b.toArray tb)).alloc (.cells c.toArray tc)) (w.heap.size+1) tb b ∧
  Box (((w.alloc (.cells a.toArray ta)).alloc (.cells b.toArray tb)).alloc (.cells c.toArray tc)) (w.heap.size+1+1) tc c∧Below w.heap.size w (((w.alloc (.cells a.toArray ta)).alloc (.cells b.toArray tb)).alloc (.cells c.toArray tc)):=by
 obtain⟨h1,h2,h3⟩:=bY w a b ta tb;refine⟨h1.alloc _,h2.alloc _,?_,h3.alloc h3.size _⟩;have:=Box.new ((w.alloc (.cells a.toArray ta)).alloc (.cells b.toArray tb)) tc c;simpa using this
theorem rQ:Box ((((w.alloc (.cells a.toArray ta)).alloc (.cells b.toArray tb)).alloc (.cells c.toArray tc)).alloc (.cells d.toArray td)) w.heap.size ta a∧Box ((((w.alloc (.cells a.toArray ta)).alloc (.cells b.toArray tb)).alloc (.cells c.toArray tc)).alloc (.cells d.toArray td)) (w.heap.size+1) tb b ∧
  Box ((((w.alloc (.cells a.toArray ta)).alloc (.cells b.toArray tb)).alloc (.cells c.toArray tc)).alloc (.cells d.toArray td)) (w.heap.size+1+1) tc c∧Box ((((w.alloc (.cells a.toArray ta)).alloc (.cells b.toArray tb)).alloc (.cells c.toArray tc)).alloc (.cells d.toArray td)) (w.heap.size+1+1+1) td d ∧
  Below w.heap.size w ((((w.alloc (.cells a.toArray ta)).alloc (.cells b.toArray tb)).alloc (.cells c.toArray tc)).alloc (.cells d.toArray td)):=by
 obtain⟨h1,h2,h3,h4⟩:=kW w a b c ta tb tc;refine⟨h1.alloc _,h2.alloc _,h3.alloc _,?_,h4.alloc h4.size _⟩;have:=Box.new (((w.alloc (.cells a.toArray ta)).alloc (.cells b.toArray tb)).alloc (.cells c.toArray tc)) td d;simpa using this
end
end
section
open Go.RowKit
theorem acv (a b:Int)(h1:0≤a)(h2:a≤30)(h3:0≤b)(h4:b≤3):bits .or .u64 (a*4) b=4*a+b:=by
 have h:∀ i:Fin 31,∀ j:Fin 4,bits .or .u64 ((i.val:Int)*4) (j.val:Int)=4*(i.val:Int)+(j.val:Int):=by decide +kernel
 have:=h ⟨a.toNat,by omega⟩ ⟨b.toNat,by omega⟩;simp only at this
 rwa [Int.toNat_of_nonneg h1,Int.toNat_of_nonneg h3] at this
theorem XX (n:Int)(h1 : -1099511627776≤n)(h2:n≤1099511627776) :
  IntKind.u64.wrap (bits .xor .i64 (n*2) (n / 9223372036854775808))=if n<0 then -2*n-1 else 2*n:=by
 by_cases h:n<0
 ·have hd:n / 9223372036854775808 = -1:=by omega
  rw[hd,if_pos h];show IntKind.u64.wrap (IntKind.i64.wrap ((BitVec.ofInt 64 (n*2) ^^^ BitVec.ofInt 64 (-1)).toNat:Int))=_;have e1:BitVec.ofInt 64 (-1)=BitVec.allOnes 64:=by decide
  rw[e1,BitVec.xor_allOnes,BitVec.toNat_not,BitVec.toNat_ofInt];have e2:(((n*2) % ((2 ^ 64:Nat):Int)).toNat:Int)=n*2+18446744073709551616:=by omega
  simp only[IntKind.wrap_i64,IntKind.wrap_u64];omega
 ·have hd:n / 9223372036854775808=0:=by omega
  rw[hd,if_neg h];show IntKind.u64.wrap (IntKind.i64.wrap ((BitVec.ofInt 64 (n*2) ^^^ BitVec.ofInt 64 0).toNat:Int))=_;have e1:BitVec.ofInt 64 0=0#64:=by decide
  rw[e1,BitVec.xor_zero,BitVec.toNat_ofInt];have e2:(((n*2) % ((2 ^ 64:Nat):Int)).toNat:Int)=n*2:=by omega
  simp only[IntKind.wrap_i64,IntKind.wrap_u64];omega
theorem alX (c:Nat)(hc:c<256):bits .and .u8 (c:Int) 127=((c % 128:Nat):Int):=by
 have h:∀ k:Fin 256,bits .and .u8 (k.val:Int) 127=((k.val % 128:Nat):Int):=by decide +kernel
 exact h ⟨c,hc⟩
theorem ajz (n c k:Nat)(hk:k<6)(hn:n<128 ^ k)(hc:c<256) :
  bits .or .u64 (n:Int) (IntKind.u64.wrap (IntKind.u64.wrap (bits .and .u8 (c:Int) 127)*2 ^ (7*k)))=((n+(c % 128)*128 ^ k:Nat):Int):=by
 have hp:(2:Nat) ^ (7*k)=128 ^ k:=by rw[Nat.pow_mul]
 have hp6:128 ^ k≤34359738368:=by
  have:128 ^ k≤128 ^ 5:=Nat.pow_le_pow_right (by decide) (by omega);simpa using this
 have hm:c % 128*128 ^ k≤127*34359738368:=Nat.mul_le_mul (by omega) hp6;have e1:IntKind.u64.wrap (bits .and .u8 (c:Int) 127)=((c % 128:Nat):Int):=by
  rw[alX c hc,IntKind.wrap_u64];omega
 have e2:((c % 128:Nat):Int)*2 ^ (7*k)=((c % 128*128 ^ k:Nat):Int):=by
  rw[←hp];simp
 have e3:IntKind.u64.wrap (((c % 128*128 ^ k:Nat):Int))=((c % 128*128 ^ k:Nat):Int):=by
  rw[IntKind.wrap_u64];omega
 rw[e1,e2,e3,u64_or_nat n _ (by omega) (by omega),Nat.or_comm,nat_join (7*k) _ _ (by rw[←hp];simp) (by rw[hp];exact hn),Nat.add_comm]
theorem anm (n:Nat)(h:n<18446744073709551616):bits .and .u64 (n:Int) 3=((n % 4:Nat):Int):=by
 have:=u64_and_nat n 3 h (by decide);rw[show ((3:Nat):Int)=3 from rfl] at this;rw[this,show (3:Nat)=2 ^ 2-1 from rfl,Nat.and_two_pow_sub_one_eq_mod]
theorem and1 (n:Nat)(h:n<18446744073709551616):bits .and .u64 (n:Int) 1=((n % 2:Nat):Int):=by
 have:=u64_and_nat n 1 h (by decide);rw[show ((1:Nat):Int)=1 from rfl] at this;rw[this,show (1:Nat)=2 ^ 1-1 from rfl,Nat.and_two_pow_sub_one_eq_mod]
theorem agh (a:Nat)(h:a<4611686018427387904):bits .xor .i64 (a:Int) (-1) = -(a:Int)-1:=by
 show IntKind.i64.wrap ((BitVec.ofInt 64 (a:Int) ^^^ BitVec.ofInt 64 (-1)).toNat:Int)=_;have e1:BitVec.ofInt 64 (-1)=BitVec.allOnes 64:=by decide
 rw[e1,BitVec.xor_allOnes,BitVec.toNat_not,BitVec.toNat_ofInt];have e2:(((a:Int) % ((2 ^ 64:Nat):Int)).toNat:Int)=a:=by omega
 simp only[IntKind.wrap_i64];omega
theorem xor_zero (a:Nat)(h:a<4611686018427387904):bits .xor .i64 (a:Int) 0=(a:Int):=by
 show IntKind.i64.wrap ((BitVec.ofInt 64 (a:Int) ^^^ BitVec.ofInt 64 0).toNat:Int)=_;have e1:BitVec.ofInt 64 0=0#64:=by decide
 rw[e1,BitVec.xor_zero,BitVec.toNat_ofInt];have e2:(((a:Int) % ((2 ^ 64:Nat):Int)).toNat:Int)=a:=by omega
 simp only[IntKind.wrap_i64];omega
theorem ahd (n:Nat)(h:n<4611686018427387904):bits .xor .i64 ((n:Int) / 2) 0=(n:Int) / 2:=by
 have:=xor_zero (n / 2) (by omega)
 rwa [show ((n / 2:Nat):Int)=(n:Int) / 2 from by omega] at this
theorem acE (n:Nat)(h:n<4611686018427387904):bits .xor .i64 ((n:Int) / 2) (-1) = -((n:Int) / 2)-1:=by
 have:=agh (n / 2) (by omega)
 rwa [show ((n / 2:Nat):Int)=(n:Int) / 2 from by omega] at this
end
section
structure Part where
 id:Int
 kind:Int
 n:Int
 s:ByteArray
deriving DecidableEq
def iW (p:Part):Bool :=
 decide (1≤p.id∧p.id≤30 ∧ -1099511627776≤p.n∧p.n≤1099511627776∧p.s.size≤20000) &&
  (decide (p.kind=0∧p.s.size=0)||decide ((p.kind=1∨p.kind=2)∧p.n=0))
def sev (n:Nat):List UInt8 :=
 if h:n<128 then [UInt8.ofNat n] else UInt8.ofNat (n % 128+128)::sev (n / 128)
 termination_by n
 decreasing_by omega
def zig (n:Int):Nat:=if n<0 then (-2*n-1).toNat else (2*n).toNat
def lN (p:Part):List UInt8 :=
 sev (4*p.id+p.kind).toNat++(if p.kind=0 then sev (zig p.n) else sev p.s.size++bytes p.s)
def jD:List Part→List UInt8→List UInt8 × Int
 | [],acc=>(acc,0)
 | p::l,acc=>if iW p then (if 20000<(acc++lN p).length then ([],7) else jD l (acc++lN p)) else ([],1)
theorem sO {n:Nat}(h:n<128):sev n=[UInt8.ofNat n]:=by rw[sev,dif_pos h]
theorem La {n:Nat}(h:¬ n<128):sev n=UInt8.ofNat (n % 128+128)::sev (n / 128):=by rw[sev,dif_neg h]
theorem Yn (k:Nat):∀ n,n<128 ^ (k+1)→(sev n).length≤k+1:=by
 induction k with
 | zero=>intro n h;rw[sO (by simpa using h)];simp
 | succ k ih =>
  intro n h
  by_cases hn:n<128
  ·rw[sO hn];simp
  ·rw[La hn];have:n / 128<128 ^ (k+1):=by rw[Nat.pow_succ] at h;omega
   have:=ih _ this;simp;omega
theorem Vm {n:Nat}(h:n<18446744073709551616):(sev n).length≤10 :=
 Yn 9 n (Nat.lt_of_lt_of_le h (by decide))
theorem amv (n:Int):(if n<0 then -2*n-1 else 2*n).toNat=zig n:=by unfold zig;split <;> rfl
theorem Wl {n:Int}(h:n<0):zig n=(-2*n-1).toNat:=by unfold zig;rw[if_pos h]
theorem acb {n:Int}(h:0≤n):zig n=(2*n).toNat:=by unfold zig;rw[if_neg (by omega)]
theorem xx {n:Nat}(h:n<4398046511104):(sev n).length≤6:=Yn 5 n (Nat.lt_of_lt_of_le h (by decide))
theorem ZX (p:Part)(h:iW p=true):(lN p).length≤20012:=by
 simp[iW] at h;have h1:(sev (4*p.id+p.kind).toNat).length≤6:=xx (by omega);have h2:(sev (zig p.n)).length≤6:=xx (by unfold zig;split <;> omega);have h3:(sev p.s.size).length≤6:=xx (by omega);have h4:(bytes p.s).length=p.s.size:=rfl;unfold lN;rw[List.length_append];split
 ·omega
 ·rw[List.length_append];omega
def mK (l:List ByteArray)(x:ByteArray):Bool:=l.any fun y=>decide (y=x)
def De (l:List ByteArray)(x:ByteArray):Int:=if mK l x then ((l.findIdx fun y=>decide (y=x):Nat):Int) else -1
theorem ajh {l:List ByteArray}{x:ByteArray}{k:Nat}(hk:k<l.length)(h:l[k]=x)(hn:∀ j (hj:j<k),l[j]≠x):De l x=k:=by
 have hm:mK l x=true:=List.any_eq_true.2 ⟨l[k],List.getElem_mem hk,by simpa using h⟩;rw[De,if_pos hm]
 congr 1
 rw[List.findIdx_eq hk];exact⟨by simpa using h,fun j hj=>by simpa using hn j hj⟩
theorem Vy {l:List ByteArray}{x:ByteArray}(hn:∀ j (hj:j<l.length),l[j]≠x):De l x = -1:=by
 rw[De,if_neg];intro hm;obtain⟨y,hy,e⟩:=List.any_eq_true.1 hm;obtain⟨j,hj,rfl⟩:=List.getElem_of_mem hy;exact hn j hj (by simpa using e)
theorem aiV (l:List ByteArray)(x:ByteArray):decide (De l x≥0)=mK l x:=by
 unfold De;cases mK l x <;> simp
def rZ:List ByteArray:=[⟨#[98,111,111,108]⟩,⟨#[101,110,117,109]⟩,⟨#[103,111,110,101]⟩,⟨#[105,110,116]⟩,⟨#[109,97,110,121]⟩,⟨#[109,97,121,98,101]⟩,⟨#[109,101,115,115,97,103,101]⟩,⟨#[111,110,101]⟩,⟨#[116,101,120,116]⟩]
def bJ (s:ByteArray):Bool:=(bytes s).all (fun c=>decide (97≤c.toNat∧c.toNat≤122))&&decide (1≤s.size∧s.size≤12) && !mK rZ s
def dz (rec:ByteArray→Nat):List ay→Nat→Nat
 | [],n=>n
 | f::l,n=>if f.rule=1 then (if f.kind=5 then (if rec f.type=0 then 0 else dz rec l (n+rec f.type)) else dz rec l (n+1)) else dz rec l n
def aZ (b:av):Nat→ByteArray→Nat
 | 0,_=>0
 | left+1,name=>match aM b name with
  | none=>0
  | some t=>if t.enum=true∨5<t.fields.length then 0 else dz (aZ b left) t.fields 1
theorem Bu {rec:ByteArray→Nat}{m:Nat}(hm:∀ x,rec x≤m)(h1:1≤m):∀ (l:List ay) (n:Nat),dz rec l n≤n+l.length*m
 | [],n=>by simp[dz]
 | f::l,n=>by
  have e:(f::l).length*m=l.length*m+m:=by rw[List.length_cons,Nat.add_mul,Nat.one_mul]
  have hf:=hm f.type;have a:=Bu hm h1 l n;have b:=Bu hm h1 l (n+1);have c:=Bu hm h1 l (n+rec f.type);rw[dz,e];split
  ·split
   ·split <;> omega
   ·omega
  ·omega
theorem UM (b:av):∀ (left:Nat) (name:ByteArray),aZ b left name≤6 ^ left
 | 0,_=>by simp[aZ]
 | left+1,name=>by
  have hp:1≤6 ^ left:=Nat.pow_pos (by decide);rw[aZ,Nat.pow_succ];split
  ·exact Nat.zero_le _
  ·rename_i t _
   split
   ·exact Nat.zero_le _
   ·rename_i h
    have:=Bu (UM b left) hp t.fields 1;have h5:t.fields.length*6 ^ left≤5*6 ^ left:=Nat.mul_le_mul_right _ (by omega);omega
theorem BU (b:av){left:Nat}(h:left≤3)(name:ByteArray):aZ b left name≤216 :=
 Nat.le_trans (UM b left name) (Nat.le_trans (Nat.pow_le_pow_right (by decide) h) (by decide))
def jT (t:ax)(n:Int):Bool:=t.items.any fun x=>decide (x.n=n)
def Vj (t:ax):Prop :=
 (∀ i (h:i<t.items.length),bJ t.items[i].name=true ∧ -1099511627776≤t.items[i].n∧t.items[i].n≤1099511627776∧(∀ (_:0<i),t.items[i-1].n<t.items[i].n)∧∀ j (_:j<i),t.items[i].name≠t.items[j].name) ∧
  1≤t.items.length∧t.items.length≤6∧t.fields.length=0∧t.gone.length=0
instance (t:ax):Decidable (Vj t):=by unfold Vj;infer_instance
def ru (t:ax):Bool:=decide (Vj t)
def uh (b:av)(f:ay):Prop:=(f.kind<4→f.type.size=0)∧(4≤f.kind→(aM b f.type).isSome=true∧((aM b f.type).getD .zero).enum=decide (f.kind=4))
instance (b:av) (f:ay):Decidable (uh b f):=by unfold uh;infer_instance
def iC (b:av)(f:ay):Prop:=bJ f.name=true∧1≤f.id∧f.id≤30∧1≤f.kind∧f.kind≤5∧1≤f.rule∧f.rule≤3∧uh b f
instance (b:av) (f:ay):Decidable (iC b f):=by unfold iC;infer_instance
def ahY (t:ax):Prop:=∀ i (h:i<t.gone.length),(aC t t.gone[i]).isSome=false∧1≤t.gone[i]∧t.gone[i]≤30∧∀ (_:0<i),t.gone[i-1]<t.gone[i]
instance (t:ax):Decidable (ahY t):=by unfold ahY;infer_instance
def FieldsP (b:av)(t:ax):Prop:=∀ i (h:i<t.fields.length),iC b t.fields[i]∧(∀ (_:0<i),t.fields[i-1].id<t.fields[i].id)∧∀ j (_:j<i),t.fields[i].name≠t.fields[j].name
instance (b:av) (t:ax):Decidable (FieldsP b t):=by unfold FieldsP;infer_instance
def dU (b:av)(t:ax):Prop:=t.fields.length≤5∧t.items.length=0∧t.gone.length≤30∧ahY t∧FieldsP b t
instance (b:av) (t:ax):Decidable (dU b t):=by unfold dU;infer_instance
def gq (b:av)(t:ax):Bool:=decide (dU b t)
def ltS (a b:ByteArray):Prop:=Op.bytesLess a.toList b.toList=true
instance (a b:ByteArray):Decidable (ltS a b):=by unfold ltS;infer_instance
def IL (b:av):Prop:=∀ i (h:i<b.length),bJ b[i].name=true∧(∀ (_:0<i),ltS b[i-1].name b[i].name)∧(if b[i].enum=true then ru b[i]=true else gq b b[i]=true)
instance (b:av):Decidable (IL b):=by unfold IL;infer_instance
def XY (b:av):Prop:=∀ i (h:i<b.length),b[i].enum=false→1≤aZ b 4 b[i].name∧aZ b 4 b[i].name≤12
instance (b:av):Decidable (XY b):=by unfold XY;infer_instance
def aB (b:av):Int:=if 4<b.length then 7 else if ¬ IL b then 1 else if ¬ XY b then 7 else 0
def nH (s:List UInt8):Nat→Nat→Nat→Nat × Nat × Bool
 | 0,_,_=>(0,0,true)
 | f+1,i,n =>
  if h:i<s.length then
   if s[i].toNat<128 then (n+s[i].toNat*128 ^ i,i+1,decide (s[i].toNat=0∧0<i))
   else nH s f (i+1) (n+(s[i].toNat % 128)*128 ^ i)
  else (0,0,true)
def tH (s:List UInt8):Nat × Nat × Bool:=nH s 6 0 0
def zag (n:Nat):Int:=if n % 2=0 then (n / 2:Nat) else -(((n+1) / 2:Nat):Int)
def ul (s:List UInt8):Option (Part × List UInt8) :=
 let (key,m1,b1):=tH s
 let s1:=s.drop m1
 let (n,m2,b2):=tH s1
 let s2:=s1.drop m2
 if b1∨b2 then none
 else if key % 4=0 then
  let p:Part:=⟨key / 4,0,zag n,⟨#[]⟩⟩
  if iW p then some (p,s2) else none
 else if n≤s2.length then
  let p:Part:=⟨key / 4,key % 4,0,⟨(s2.take n).toArray⟩⟩
  if iW p then some (p,s2.drop n) else none
 else none
def tZ:Nat→List UInt8→List Part→List Part × Int
 | 0,_,acc=>(acc,0)
 | f+1,s,acc=>if s=[] then (acc,0) else match ul s with
  | none=>([],1)
  | some (p,s')=>tZ f s' (acc++[p])
def mV (s:List UInt8):List Part × Int:=if 20000<s.length then ([],7) else tZ s.length s []
theorem VL {s:List UInt8}{k n:Nat}(h6:k<6)(h:k<s.length)(hc:s[k].toNat<128):nH s (6-k) k n=(n+s[k].toNat*128 ^ k,k+1,decide (s[k].toNat=0∧0<k)):=by
 rw[show 6-k=(5-k)+1 from by omega,nH,dif_pos h,if_pos hc]
theorem abv {s:List UInt8}{k n:Nat}(h6:k<6)(h:k<s.length)(hc:¬ s[k].toNat<128):nH s (6-k) k n=nH s (6-(k+1)) (k+1) (n+(s[k].toNat % 128)*128 ^ k):=by
 rw[show 6-k=(5-k)+1 from by omega,nH,dif_pos h,if_neg hc,show 6-(k+1)=5-k from by omega]
theorem Vq {s:List UInt8}{k n:Nat}(hk:k≤6)(h:¬ (k<6∧k<s.length)):nH s (6-k) k n=(0,0,true):=by
 by_cases h6:k<6
 ·rw[show 6-k=(5-k)+1 from by omega,nH,dif_neg (by omega)]
 ·rw[show 6-k=0 from by omega,nH]
theorem aac (s:List UInt8):∀ (f i n:Nat),n<128 ^ i→(nH s f i n).1<128 ^ (i+f)
 | 0,i,n,h=>by simp[nH];exact Nat.pow_pos (by decide)
 | f+1,i,n,h=>by
  have hp:0<128 ^ i:=Nat.pow_pos (by decide);have hm:128 ^ (i+1)=128*128 ^ i:=by rw[Nat.pow_succ,Nat.mul_comm]
  have hle:128 ^ (i+1)≤128 ^ (i+(f+1)):=Nat.pow_le_pow_right (by decide) (by omega);rw[nH];split
  ·split
   ·rename_i h1 h2
    have:s[i].toNat*128 ^ i≤127*128 ^ i:=Nat.mul_le_mul_right _ (by omega);simp only;omega
   ·rename_i h1 h2
    have h3:(s[i].toNat % 128)*128 ^ i≤127*128 ^ i:=Nat.mul_le_mul_right _ (by omega);have:=aac s f (i+1) (n+(s[i].toNat % 128)*128 ^ i) (by omega);rw[show i+(f+1)=i+1+f from by omega];exact this
  ·exact Nat.pow_pos (by decide)
theorem JR (s:List UInt8):(tH s).1<4398046511104:=aac s 6 0 0 (by decide)
theorem UO (s:List UInt8):∀ (f i n:Nat),(nH s f i n).2.1≤s.length
 | 0,i,n=>by simp[nH]
 | f+1,i,n=>by
  rw[nH];split
  ·split
   ·simp only;omega
   ·exact UO s f _ _
  ·simp
theorem Em (s:List UInt8):(tH s).2.1≤s.length:=UO s 6 0 0
theorem VJ (s:List UInt8):∀ (f i n:Nat),(nH s f i n).2.2=false→0<(nH s f i n).2.1
 | 0,i,n=>by simp[nH]
 | f+1,i,n=>by
  rw[nH];split
  ·split
   ·intro _;simp only;omega
   ·exact VJ s f _ _
  ·simp
theorem Sk (s:List UInt8):(tH s).2.2=false→0<(tH s).2.1:=VJ s 6 0 0
theorem Bf {s:List UInt8}{key m1 n m2:Nat}{b1 b2:Bool}(h1:tH s=(key,m1,b1))(h2:tH (s.drop m1)=(n,m2,b2)) :
  ul s=if b1=true∨b2=true then none
   else if key % 4=0 then (if iW ⟨key / 4,0,zag n,⟨#[]⟩⟩ then some (⟨key / 4,0,zag n,⟨#[]⟩⟩,(s.drop m1).drop m2) else none)
   else if n≤((s.drop m1).drop m2).length then
    (if iW ⟨key / 4,key % 4,0,⟨(((s.drop m1).drop m2).take n).toArray⟩⟩ then some (⟨key / 4,key % 4,0,⟨(((s.drop m1).drop m2).take n).toArray⟩⟩,((s.drop m1).drop m2).drop n) else none)
   else none:=by
 unfold ul;rw[h1];simp only;rw[h2]
theorem Ka {n:Nat}(h:n % 2=0):zag n=(n:Int) / 2:=by unfold zag;rw[if_pos h];omega
theorem OY {n:Nat}(h:¬ n % 2=0):zag n = -((n:Int) / 2)-1:=by unfold zag;rw[if_neg h];omega
theorem wU {s s':List UInt8}{p:Part}(h:ul s=some (p,s')):s'.length<s.length:=by
 unfold ul at h;have h1:=Sk s;have h2:=Em s
 revert h
 generalize tH s=r1 at *;obtain⟨key,m1,b1⟩:=r1;simp only at *;generalize tH (s.drop m1)=r2;obtain⟨n,m2,b2⟩:=r2;simp only;intro h
 by_cases hb:b1=true∨b2=true
 ·rw[if_pos hb] at h;cases h
 ·rw[if_neg hb] at h;have hb1:b1=false:=by cases b1 <;> simp_all
  have:=h1 hb1;split at h
  ·split at h
   ·injection h with h;injection h with _ h;subst h;simp;omega
   ·cases h
  ·split at h
   ·split at h
    ·injection h with h;injection h with _ h;subst h;simp;omega
    ·cases h
   ·cases h
theorem AU (f:Nat)(acc:List Part):tZ f [] acc=(acc,0):=by cases f <;> simp[tZ]
theorem ajJ:∀ (f g:Nat) (s:List UInt8) (acc:List Part),s.length≤f→s.length≤g→tZ f s acc=tZ g s acc:=by
 intro f
 induction f with
 | zero =>
  intro g s acc h _;have:s=[]:=List.eq_nil_of_length_eq_zero (by omega);subst this;rw[AU,AU]
 | succ f ih =>
  intro g s acc h h'
  by_cases hs:s=[]
  ·subst hs;rw[AU,AU]
  ·obtain⟨g',rfl⟩:∃ g',g=g'+1:=⟨g-1,by have:=List.length_pos_iff.2 hs;omega⟩;rw[tZ,tZ,if_neg hs,if_neg hs];cases hst:ul s with
   | none=>rfl
   | some r =>
    obtain⟨p,s'⟩:=r;have:=wU hst;exact ih g' s' _ (by omega) (by omega)
theorem Cg {s s':List UInt8}{p:Part}{acc:List Part}(hs:s≠[])(h:ul s=some (p,s')):tZ s.length s acc=tZ s'.length s' (acc++[p]):=by
 obtain⟨g,hg⟩:∃ g,s.length=g+1:=⟨s.length-1,by have:=List.length_pos_iff.2 hs;omega⟩;rw[hg,tZ,if_neg hs,h];have:=wU h;exact ajJ _ _ _ _ (by omega) (by omega)
theorem Az {s:List UInt8}{acc:List Part}(hs:s≠[])(h:ul s=none):tZ s.length s acc=([],1):=by
 obtain⟨g,hg⟩:∃ g,s.length=g+1:=⟨s.length-1,by have:=List.length_pos_iff.2 hs;omega⟩;rw[hg,tZ,if_neg hs,h]
theorem akX (c:UInt8)(h:¬ c.toNat<128):UInt8.ofNat (c.toNat % 128+128)=c:=by
 have:=c.toNat_lt;apply UInt8.toNat_inj.1;rw[UInt8.toNat_ofNat'];omega
theorem ajD (n:Nat):sev n≠[]:=by
 by_cases h:n<128
 ·rw[sO h];simp
 ·rw[La h];simp
theorem VK {s:List UInt8}{i:Nat}{c:UInt8}{r:List UInt8}(h:s.drop i=c::r):∃ hi:i<s.length,s[i]=c∧s.drop (i+1)=r:=by
 have hi:i<s.length:=by
  rcases Nat.lt_or_ge i s.length with h' | h'
  ·exact h'
  ·rw[List.drop_eq_nil_of_le h'] at h;cases h
 rw[List.drop_eq_getElem_cons hi] at h;injection h with h1 h2
 exact⟨hi,h1,h2⟩
theorem Um (s:List UInt8):∀ (f i n x:Nat) (rest:List UInt8),0<f→x<128 ^ f→s.drop i=sev x++rest→nH s f i n=(n+x*128 ^ i,i+(sev x).length,decide (x=0∧0<i))
 | 0,_,_,_,_,h,_,_=>absurd h (by omega)
 | f+1,i,n,x,rest,_,hx,hd=>by
  by_cases h:x<128
  ·rw[sO h] at hd ⊢;obtain⟨hi,hc,_⟩:=VK hd;have ht:s[i].toNat=x:=by rw[hc,UInt8.toNat_ofNat'];omega
   rw[nH,dif_pos hi,if_pos (by rw[ht];exact h),ht];rfl
  ·rw[La h] at hd ⊢;obtain⟨hi,hc,hr⟩:=VK hd;have ht:s[i].toNat=x % 128+128:=by rw[hc,UInt8.toNat_ofNat'];omega
   have hf:0<f:=by
    rcases Nat.eq_zero_or_pos f with h0 | h0
    ·subst h0;simp at hx;omega
    ·exact h0
   have hx':x / 128<128 ^ f:=by rw[Nat.pow_succ] at hx;omega
   rw[nH,dif_pos hi,if_neg (by rw[ht];omega),Um s f (i+1) _ (x / 128) rest hf hx' hr];have e1:s[i].toNat % 128=x % 128:=by rw[ht];omega
   have e2:n+s[i].toNat % 128*128 ^ i+x / 128*128 ^ (i+1)=n+x*128 ^ i:=by
    rw[e1,Nat.pow_succ];have:x*128 ^ i=(x % 128+128*(x / 128))*128 ^ i:=by rw[Nat.mod_add_div]
    rw[this,Nat.add_mul,←Nat.mul_assoc,Nat.mul_comm (x / 128*128 ^ i) 128,←Nat.mul_assoc,Nat.add_assoc]
   rw[e2];have e3:decide (x / 128=0∧0<i+1)=false:=by simp;omega
   have e4:decide (x=0∧0<i)=false:=by simp;omega
   rw[e3,e4,List.length_cons]
   congr 2;omega
theorem DV {s:List UInt8}{x:Nat}{rest:List UInt8}(hx:x<4398046511104)(h:s=sev x++rest):tH s=(x,(sev x).length,false):=by
 have:=Um s 6 0 0 x rest (by decide) hx (by simpa using h);rw[tH,this];simp
theorem RG (s:List UInt8):∀ (f i n r m:Nat),nH s f i n=(r,m,false)→∃ x,r=n+x*128 ^ i∧s.drop i=sev x++s.drop m∧i<m∧(i=0∨x≠0)
 | 0,i,n,r,m,h=>by simp[nH] at h
 | f+1,i,n,r,m,h=>by
  rw[nH] at h;split at h
  ·rename_i hi
   split at h
   ·rename_i hc
    simp only[Prod.mk.injEq,decide_eq_false_iff_not] at h;obtain⟨rfl,rfl,hb⟩:=h;refine⟨s[i].toNat,rfl,?_,by omega,by omega⟩;rw[sO hc,List.drop_eq_getElem_cons hi];simp
   ·rename_i hc
    obtain⟨x,hr,hd,hm,hx⟩:=RG s f (i+1) _ r m h;have hx0:x≠0:=by omega
    refine⟨s[i].toNat % 128+128*x,?_,?_,by omega,by omega⟩
    ·rw[hr,Nat.pow_succ,Nat.add_mul,←Nat.mul_assoc,Nat.mul_comm (x*128 ^ i) 128,←Nat.mul_assoc,Nat.add_assoc]
    ·have h1:¬ (s[i].toNat % 128+128*x)<128:=by omega
     rw[La h1,List.drop_eq_getElem_cons hi,hd];have e1:(s[i].toNat % 128+128*x) % 128=s[i].toNat % 128:=by omega
     have e2:(s[i].toNat % 128+128*x) / 128=x:=by omega
     rw[e1,e2,akX _ hc];rfl
  ·simp at h
theorem Mi {s:List UInt8}{r m:Nat}(h:tH s=(r,m,false)):s=sev r++s.drop m∧0<m:=by
 obtain⟨x,hr,hd,hm,_⟩:=RG s 6 0 0 r m h;have:r=x:=by simpa using hr
 subst this;exact⟨by simpa using hd,hm⟩
theorem akm (n:Int):zag (zig n)=n:=by
 by_cases h:n<0
 ·rw[Wl h,OY (by omega)];omega
 ·rw[acb (by omega),Ka (by omega)];omega
theorem akx (n:Nat):zig (zag n)=n:=by
 by_cases h:n % 2=0
 ·rw[Ka h,acb (by omega)];omega
 ·rw[OY h,Wl (by omega)];omega
theorem yK {p:Part}(h:iW p=true):1≤p.id∧p.id≤30∧0≤p.kind∧p.kind≤2 ∧ -1099511627776≤p.n∧p.n≤1099511627776∧p.s.size≤20000∧(p.kind=0→p.s.size=0)∧(p.kind≠0→p.n=0):=by
 simp only[iW,Bool.and_eq_true,Bool.or_eq_true,decide_eq_true_eq] at h;omega
theorem ahg {p:Part}(hg:iW p=true)(rest:List UInt8):ul (lN p++rest)=some (p,rest):=by
 obtain⟨i1,i2,k1,k2,n1,n2,s1,h0,hn⟩:=yK hg;obtain⟨id,kind,n,s⟩:=p;simp only at *;have hkl:(4*id+kind).toNat<4398046511104:=by omega
 by_cases hk:kind=0
 ·subst hk;have hzl:zig n<4398046511104:=by unfold zig;split <;> omega
  have he:lN ⟨id,0,n,s⟩++rest=sev (4*id+0).toNat++(sev (zig n)++rest):=by rw[lN,if_pos rfl,List.append_assoc]
  have g1:=DV hkl he;have hd:(lN ⟨id,0,n,s⟩++rest).drop (sev (4*id+0).toNat).length=sev (zig n)++rest:=by rw[he,List.drop_left]
  have g2:=DV hzl hd;rw[Bf g1 g2,if_neg (by simp),if_pos (by omega),hd,List.drop_left,akm];have hs:s=⟨#[]⟩:=qb (List.eq_nil_of_length_eq_zero (h0 rfl));have hi:(((4*id+0).toNat:Nat):Int) / 4=id:=by omega
  rw[hi,←hs,if_pos hg]
 ·have hsl:s.size<4398046511104:=by omega
  have hn0:n=0:=hn hk;subst hn0;have he:lN ⟨id,kind,0,s⟩++rest=sev (4*id+kind).toNat++(sev s.size++(bytes s++rest)):=by
   rw[lN,if_neg hk];simp[List.append_assoc]
  have g1:=DV hkl he;have hd:(lN ⟨id,kind,0,s⟩++rest).drop (sev (4*id+kind).toNat).length=sev s.size++(bytes s++rest):=by rw[he,List.drop_left]
  have g2:=DV hsl hd;have hl:s.size=(bytes s).length:=rfl;rw[Bf g1 g2,if_neg (by simp),if_neg (by omega),hd,List.drop_left,if_pos (by rw[List.length_append];omega),hl,List.take_left,List.drop_left];have hi:(((4*id+kind).toNat:Nat):Int) / 4=id:=by omega
  have hm:(((4*id+kind).toNat:Nat):Int) % 4=kind:=by omega
  have hs:(⟨(bytes s).toArray⟩:ByteArray)=s:=(qb rfl).symm;rw[hi,hm,hs,if_pos hg]
theorem acu {s s':List UInt8}{p:Part}(h:ul s=some (p,s')):iW p=true∧s=lN p++s':=by
 obtain⟨key,m1,b1,g1⟩:∃ k m b,tH s=(k,m,b):=⟨_,_,_,rfl⟩;obtain⟨n,m2,b2,g2⟩:∃ k m b,tH (s.drop m1)=(k,m,b):=⟨_,_,_,rfl⟩;rw[Bf g1 g2] at h
 by_cases hb:b1=true∨b2=true
 ·rw[if_pos hb] at h;cases h
 rw[if_neg hb] at h;have hb1:b1=false:=by cases b1 <;> simp_all
 have hb2:b2=false:=by cases b2 <;> simp_all
 subst hb1 hb2;obtain⟨e1,_⟩:=Mi g1;obtain⟨e2,_⟩:=Mi g2
 by_cases hk:key % 4=0
 ·rw[if_pos hk] at h;split at h
  ·rename_i hg
   injection h with h
   injection h with hp hs
   subst hp;refine⟨hg,?_⟩;subst hs;have ek:(4*((key:Int) / 4)+0).toNat=key:=by omega
   rw[lN,if_pos rfl,akx,ek,List.append_assoc,←e2];exact e1
  ·cases h
 ·rw[if_neg hk] at h;split at h
  ·rename_i hn
   split at h
   ·rename_i hg
    injection h with h
    injection h with hp hs
    subst hp;refine⟨hg,?_⟩;subst hs;have ek:(4*((key:Int) / 4)+(key:Int) % 4).toNat=key:=by omega
    have hz:¬ ((key:Int) % 4)=0:=by omega
    have hsz:(⟨(((s.drop m1).drop m2).take n).toArray⟩:ByteArray).size=n:=by
     show (((s.drop m1).drop m2).take n).toArray.size=n;simp at hn ⊢;omega
    rw[lN,if_neg hz,ek,hsz,sU,List.append_assoc,List.append_assoc,List.take_append_drop,←e2];exact e1
   ·cases h
  ·cases h
theorem Jp:∀ (l:List Part) (acc r:List UInt8),jD l acc=(r,0)→r=acc++l.flatMap lN∧(∀ p∈l,iW p=true)∧(l≠[]→r.length≤20000)
 | [],acc,r,h=>by simp[jD] at h;simp[h]
 | p::l,acc,r,h=>by
  rw[jD] at h
  by_cases hg:iW p=true
  ·rw[if_pos hg] at h
   by_cases hl:20000<(acc++lN p).length
   ·rw[if_pos hl] at h;simp at h
   ·rw[if_neg hl] at h;obtain⟨h1,h2,h3⟩:=Jp l _ _ h;refine⟨by rw[h1];simp,fun q hq=>?_,fun _=>?_⟩
    ·rcases List.mem_cons.1 hq with rfl | h
     ·exact hg
     ·exact h2 q h
    ·by_cases hn:l=[]
     ·subst hn;rw[h1];simp at hl ⊢;omega
     ·exact h3 hn
  ·rw[if_neg hg] at h;simp at h
theorem UB:∀ (l:List Part) (acc:List Part),(∀ p∈l,iW p=true)→tZ (l.flatMap lN).length (l.flatMap lN) acc=(acc++l,0)
 | [],acc,_=>by simp[tZ]
 | p::l,acc,h=>by
  have hne:(p::l).flatMap lN≠[]:=by
   rw[List.flatMap_cons];intro h;have h1:=(List.append_eq_nil_iff.1 h).1;unfold lN at h1;exact ajD _ (List.append_eq_nil_iff.1 h1).1
  have hst:=ahg (h p (by simp)) (l.flatMap lN);rw[←List.flatMap_cons] at hst;rw[Cg hne hst,UB l _ (fun q hq=>h q (by simp[hq]))];simp
theorem Fy {l:List Part}{r:List UInt8}(h:jD l []=(r,0)):mV r=(l,0):=by
 obtain⟨h1,h2,h3⟩:=Jp l [] r h;simp at h1;have hl:¬ 20000<r.length:=by
  by_cases hn:l=[]
  ·subst hn;subst h1;simp
  ·have:=h3 hn;omega
 rw[mV,if_neg hl,h1,UB l [] h2];rfl
theorem LX:∀ (f:Nat) (s:List UInt8) (acc l:List Part),tZ f s acc=(l,0)→s.length≤f→∃ l',l=acc++l'∧s=l'.flatMap lN∧∀ p∈l',iW p=true
 | 0,s,acc,l,h,hs=>by
  have:s=[]:=List.eq_nil_of_length_eq_zero (by omega);subst this;simp[tZ] at h;exact⟨[],by simp[h],by simp,by simp⟩
 | f+1,s,acc,l,h,hs=>by
  rw[tZ] at h
  by_cases hn:s=[]
  ·rw[if_pos hn] at h;simp at h;exact⟨[],by simp[h],by simp[hn],by simp⟩
  ·rw[if_neg hn] at h;cases hst:ul s with
   | none=>rw[hst] at h;simp at h
   | some r =>
    obtain⟨p,s'⟩:=r;rw[hst] at h;have hl:=wU hst;obtain⟨hg,he⟩:=acu hst;obtain⟨l',h1,h2,h3⟩:=LX f s' _ l h (by omega);refine⟨p::l',by simp[h1],by rw[List.flatMap_cons,←h2];exact he,fun q hq=>?_⟩;rcases List.mem_cons.1 hq with rfl | h
    ·exact hg
    ·exact h3 q h
theorem LK:∀ (l:List Part) (acc:List UInt8),(∀ p∈l,iW p=true)→(acc++l.flatMap lN).length≤20000→jD l acc=(acc++l.flatMap lN,0)
 | [],acc,_,_=>by simp[jD]
 | p::l,acc,h,hl=>by
  have hl':¬ 20000<(acc++lN p).length:=by
   rw[List.flatMap_cons,←List.append_assoc,List.length_append] at hl;omega
  rw[jD,if_pos (h p (by simp)),if_neg hl',LK l _ (fun q hq=>h q (by simp[hq])) (by rw[List.flatMap_cons,←List.append_assoc] at hl;exact hl)];simp
theorem VH {s:List UInt8}{l:List Part}(h:mV s=(l,0)):jD l []=(s,0):=by
 unfold mV at h
 by_cases hl:20000<s.length
 ·rw[if_pos hl] at h;simp at h
 ·rw[if_neg hl] at h;obtain⟨l',h1,h2,h3⟩:=LX _ s [] l h (Nat.le_refl _);simp at h1;subst h1;rw[LK l [] h3 (by rw[←h2];simp;omega),←h2];rfl
inductive aj where
 | mk (kind n:Int) (s:ByteArray) (ids:List Int) (l:List aj)
namespace aj
def kind:aj→Int | mk k _ _ _ _=>k
def n:aj→Int | mk _ n _ _ _=>n
def s:aj→ByteArray | mk _ _ s _ _=>s
def ids:aj→List Int | mk _ _ _ i _=>i
def l:aj→List aj | mk _ _ _ _ l=>l
def zero:aj:=mk 0 0 ⟨#[]⟩ [] []
end aj
def vI (ids:List Int)(l:List aj):aj:=.mk 2 0 ⟨#[]⟩ ids l
def qG (s:ByteArray):Bool:=(bytes s).all (fun c=>decide (c.toNat<128))&&decide (s.size≤40)
mutual
def aD:aj→Nat
 | .mk _ _ _ _ l=>gJ l+1
def gJ:List aj→Nat
 | []=>0
 | x::l=>max (aD x) (gJ l)
end
mutual
def aW:aj→Nat
 | .mk _ _ _ _ l=>cO l+1
def cO:List aj→Nat
 | []=>0
 | x::l=>aW x+cO l
end
def jA (v:aj):Bool:=decide (aD v≤24∧aW v≤400)
def kindOf (k:Int):Int:=if k=3 then 1 else if k=5 then 2 else 0
def vV (v:aj):Bool:=decide ((v.kind≠2∧0<v.ids.length+v.l.length)∨(v.kind≠0∧v.n≠0)∨(v.kind≠1∧v.s.size≠0))
def eO (b:av)(f:ay)(v:aj):Int :=
 if v.kind≠kindOf f.kind then 5
 else if vV v=true then 1
 else if f.kind=1 then (if v.n=0∨v.n=1 then 0 else 6)
 else if f.kind=2 then (if v.n < -1099511627776∨1099511627776<v.n then 2 else 0)
 else if f.kind=3 then (if qG v.s=true then 0 else 1)
 else if f.kind=4 then (if jT ((aM b f.type).getD .zero) v.n=true then 0 else 6)
 else 0
def dV (l:List Int)(n:Int):Bool:=l.any fun m=>decide (m=n)
def typeOf (b:av)(name:ByteArray):ax:=(aM b name).getD .zero
def qV (t:ax)(ids:List Int):Bool:=t.fields.all fun f=>decide (f.rule≠1)||dV ids f.id
def mJ (t:ax)(last:Option Int)(id:Int):Int:=match aC t id with
 | none=>3
 | some f=>match last with
  | none=>0
  | some k=>if id<k then 1 else if k=id∧f.rule≠3 then 4 else 0
mutual
def cz (b:av):ax→aj→Int
 | t,.mk kind n s ids l =>
  if kind≠2 then 5 else if ids.length≠l.length∨n≠0∨s.size≠0 then 1
  else if eT b t none ids l≠0 then eT b t none ids l
  else if qV t ids=true then 0 else 3
def eT (b:av):ax→Option Int→List Int→List aj→Int
 | _,_,_,[]=>0
 | t,last,ids,x::l=>match ids with
  | []=>0
  | id::ids =>
   if mJ t last id≠0 then mJ t last id
   else if eO b ((aC t id).getD .zero) x≠0 then eO b ((aC t id).getD .zero) x
   else if ((aC t id).getD .zero).kind=5∧cz b (typeOf b ((aC t id).getD .zero).type) x≠0 then cz b (typeOf b ((aC t id).getD .zero).type) x
   else eT b t (some id) ids l
end
def dW (b:av)(name:ByteArray):Bool:=match aM b name with | none=>true | some t=>t.enum
def dQ (b:av)(name:ByteArray)(v:aj):Int :=
 if aB b≠0 then 1 else if dW b name=true then 3 else if jA v=false then 7 else cz b (typeOf b name) v
def aL (b:av)(k:Nat)(f:ay):aj :=
 if f.kind=3 then .mk 1 0 ⟨#[]⟩ [] []
 else if f.kind=4 then .mk 0 (((typeOf b f.type).items.head?.map (·.n)).getD 0) ⟨#[]⟩ [] []
 else if f.kind=5 then match k with
  | 0=>.zero
  | k+1=>vI (((typeOf b f.type).fields.filter fun g=>decide (g.rule=1)).map (·.id)) (((typeOf b f.type).fields.filter fun g=>decide (g.rule=1)).map (aL b k))
 else .zero
def iE (b:av)(k:Nat)(t:ax):aj:=vI ((t.fields.filter fun g=>decide (g.rule=1)).map (·.id)) ((t.fields.filter fun g=>decide (g.rule=1)).map (aL b k))
def partOf (id:Int)(x:aj)(inner:List UInt8):Part:=⟨id,x.kind,x.n,if x.kind=2 then ⟨inner.toArray⟩ else x.s⟩
mutual
def dI:aj→List UInt8 × Int
 | .mk _ _ _ ids l=>if (eH ids l []).2≠0 then ([],(eH ids l []).2) else jD (eH ids l []).1 []
def eH:List Int→List aj→List Part→List Part × Int
 | _,[],acc=>(acc,0)
 | ids,x::l,acc=>match ids with
  | []=>(acc,0)
  | id::ids=>if x.kind=2∧(dI x).2≠0 then ([],(dI x).2) else eH ids l (acc++[partOf id x (dI x).1])
end
def iF (b:av)(name:ByteArray)(v:aj):List UInt8 × Int:=if dQ b name v≠0 then ([],dQ b name v) else dI v
def eQ (b:av)(k:Nat)(ids:List Int)(l:List aj)(f:ay):List (Int × aj) :=
 (if f.rule=1∧dV ids f.id=false then [(f.id,aL b k f)] else [])++(ids.zip l).filter fun p=>decide (p.1=f.id)
def kz (b:av)(k:Nat)(t:ax)(ids:List Int)(l:List aj):aj :=
 vI ((t.fields.flatMap (eQ b k ids l)).map (·.1)) ((t.fields.flatMap (eQ b k ids l)).map (·.2))
def mO (p:Part):aj:=.mk p.kind p.n (if p.kind=1 then p.s else ⟨#[]⟩) [] []
def nQ (last:Option Int)(id:Int):Bool:=match last with | none=>false | some k=>decide (id<k)
def gm (b:av)(rec:ax→List UInt8→aj × Int)(t:ax):Option Int→List Part→List Int→List aj→(List Int × List aj) × Int
 | _,[],ids,l=>((ids,l),0)
 | last,p::ps,ids,l =>
  if nQ last p.id=true then (([],[]),1)
  else match aC t p.id with
   | none=>gm b rec t (some p.id) ps ids l
   | some f =>
    if eO b f (mO p)≠0 then (([],[]),eO b f (mO p))
    else if f.rule≠3∧dV ids p.id=true then (([],[]),4)
    else if f.kind=5 then
     (if (rec (typeOf b f.type) (bytes p.s)).2≠0 then (([],[]),(rec (typeOf b f.type) (bytes p.s)).2)
     else gm b rec t (some p.id) ps (ids++[p.id]) (l++[(rec (typeOf b f.type) (bytes p.s)).1]))
    else gm b rec t (some p.id) ps (ids++[p.id]) (l++[mO p])
def iN (b:av):Nat→ax→List UInt8→aj × Int
 | 0,_,_=>(.zero,7)
 | k+1,t,s =>
  if (mV s).2≠0 then (.zero,(mV s).2)
  else if (gm b (iN b k) t none (mV s).1 [] []).2≠0 then (.zero,(gm b (iN b k) t none (mV s).1 [] []).2)
  else (kz b 4 t (gm b (iN b k) t none (mV s).1 [] []).1.1 (gm b (iN b k) t none (mV s).1 [] []).1.2,0)
def fZ (b:av)(name:ByteArray)(s:List UInt8):aj × Int :=
 if aB b≠0 then (.zero,1) else if dW b name=true then (.zero,3)
 else if (iN b 24 (typeOf b name) s).2≠0 then (.zero,(iN b 24 (typeOf b name) s).2)
 else if jA (iN b 24 (typeOf b name) s).1=false then (.zero,7) else ((iN b 24 (typeOf b name) s).1,0)
open Go.RowKit
def ug:Nat→Rel aj
 | 0=>fun _ _ _ _=>False
 | n+1=>fun S w cs v=>∃ vi vl,cs=[O v.kind,O v.n,.string v.s,vi,vl]∧RSl 1 8 aQ S w [vi] v.ids∧RSl 5 80 (ug n) S w [vl] v.l
theorem ug.fair:∀ n,Fair (ug n)
 | 0=>⟨fun h _=>h,fun h _=>h⟩
 | n+1=>⟨by
   rintro S w w' cs v ⟨vi,vl,h,a,b⟩ hk;exact⟨vi,vl,h,(RSl.fair aQ.fair).keep a hk,(RSl.fair (ug.fair n)).keep b hk⟩,by
   rintro S T w cs v ⟨vi,vl,h,a,b⟩ hk;exact⟨vi,vl,h,(RSl.fair aQ.fair).mono a hk,(RSl.fair (ug.fair n)).mono b hk⟩⟩
theorem RSl.imp {α:Type}{sz by_:Nat}{R R':Rel α}{S:Nat→Prop}{w:World}{cs:List Value}{xs:List α}(h:RSl sz by_ R S w cs xs)(hi:∀ x∈xs,∀ es,R S w es x→R' S w es x):RSl sz by_ R' S w cs xs:=by
 obtain⟨A,cap,h1,h2,h3,h4⟩:=h;refine⟨A,cap,h1,h2,h3,fun k x hx=>?_⟩;obtain⟨g,o,es,a,b,c,d,e,f⟩:=h4 k x hx;exact⟨g,o,es,a,b,c,d,hi x (List.mem_of_getElem? hx) es e,f⟩
theorem ug.up {S:Nat→Prop}{w:World}:∀ {n m:Nat} {cs:List Value} {v:aj},ug n S w cs v→n≤m→ug m S w cs v
 | 0,_,_,_,h,_=>h.elim
 | n+1,0,_,_,_,h=>absurd h (by omega)
 | n+1,m+1,_,_,⟨vi,vl,h,a,b⟩,hm=>⟨vi,vl,h,a,b.imp fun _ _ _ hx=>ug.up hx (by omega)⟩
def aA:Rel aj:=fun S w cs v=>ug (aD v) S w cs v
theorem aA.fair:Fair aA:=⟨fun h hk=>(ug.fair _).keep h hk,fun h hk=>(ug.fair _).mono h hk⟩
theorem gG:∀ {l:List aj} {x:aj},x∈l→aD x≤gJ l
 | [],_,h=>by cases h
 | y::l,x,h=>by
  rw[gJ];rcases List.mem_cons.1 h with rfl | h
  ·omega
  ·have:=gG h;omega
theorem ug.down {S:Nat→Prop}{w:World}:∀ {n:Nat} {cs:List Value} {v:aj},ug n S w cs v→aA S w cs v
 | 0,_,_,h=>h.elim
 | n+1,cs,.mk kind nn s ids l,⟨vi,vl,h,a,b⟩=>by
  unfold aA;rw[aD];exact⟨vi,vl,h,a,b.imp fun x hx es hr=>ug.up (ug.down hr:aA S w es x) (gG hx)⟩
theorem aA.mk {S:Nat→Prop}{w:World}{vi vl:Value}{kind n:Int}{s:ByteArray}{ids:List Int}{l:List aj}(a:RSl 1 8 aQ S w [vi] ids)(b:RSl 5 80 aA S w [vl] l) :
  aA S w [O kind,O n,.string s,vi,vl] (.mk kind n s ids l):=by
 unfold aA;rw[aD];exact⟨vi,vl,rfl,a,b.imp fun x hx es hr=>ug.up hr (gG hx)⟩
theorem aA.parts {S:Nat→Prop}{w:World}{cs:List Value}{kind n:Int}{s:ByteArray}{ids:List Int}{l:List aj}(h:aA S w cs (.mk kind n s ids l)) :
  ∃ A1 c1 A2 c2,cs=(VV kind n s A1 ids c1 A2 l c2)∧RSl 1 8 aQ S w [.slice A1 ids.length c1] ids∧RSl 5 80 aA S w [.slice A2 l.length c2] l:=by
 unfold aA at h;rw[aD] at h;obtain⟨vi,vl,rfl,a,b⟩:=h;obtain⟨A1,c1,rfl,_,_⟩:=a.form;obtain⟨A2,c2,rfl,_,_⟩:=b.form;exact⟨A1,c1,A2,c2,rfl,a,b.imp fun x _ es hr=>ug.down hr⟩
theorem aA.zero {S:Nat→Prop}{w:World}:aA S w [O 0,O 0,E0,Z0,Z0] .zero:=aA.mk RSl.dJ RSl.dJ
theorem aA.plain {S:Nat→Prop}{w:World}(k n:Int)(s:ByteArray):aA S w [O k,O n,.string s,Z0,Z0] (.mk k n s [] []):=aA.mk RSl.dJ RSl.dJ
theorem aA.ones:pE aA:=by
 rintro S w cs ⟨kind,n,s,ids,l⟩ h;obtain⟨A1,c1,A2,c2,rfl,_,_⟩:=h.parts;exact gI.bK rfl
theorem aQ.ones:pE aQ:=by
 rintro S w cs x h;have h':cs=[O x]:=h;subst h';exact gI.bK rfl
def New (w:World):Nat→Prop:=fun g=>w.heap.size≤g
def Un (S:Nat→Prop)(w:World):Nat→Prop:=fun g=>S g∨w.heap.size≤g
mutual
def okV:aj→Prop
 | .mk _ _ s _ l=>s.size≤140737488351232∧okL l
def okL:List aj→Prop
 | []=>True
 | x::l=>okV x∧okL l
end
theorem Kh:∀ {l:List aj} {x:aj},okL l→x∈l→okV x
 | [],_,_,h=>by cases h
 | y::l,x,hl,h=>by
  rw[okL] at hl;rcases List.mem_cons.1 h with rfl | h
  ·exact hl.1
  ·exact Kh hl.2 h
theorem RH:∀ {l:List aj},(∀ x∈l,okV x)→okL l
 | [],_=>trivial
 | x::l,h=>by rw[okL];exact⟨h x (by simp),RH fun y hy=>h y (by simp[hy])⟩
theorem vJ:∀ {l:List aj} {x:aj},x∈l→aW x≤cO l
 | [],_,h=>by cases h
 | y::l,x,h=>by
  rw[cO];rcases List.mem_cons.1 h with rfl | h
  ·omega
  ·have:=vJ h;omega
theorem uE:∀ (l:List aj) (k:Nat) (h:k<l.length),cO (l.take (k+1))=cO (l.take k)+aW l[k]
 | [],_,h=>by simp at h
 | x::l,0,_=>by simp[cO]
 | x::l,k+1,h=>by
  simp only[List.take_succ_cons,cO,List.getElem_cons_succ];rw[uE l k (by simpa using h)];omega
theorem uA:∀ (l:List aj) (k:Nat) (h:k<l.length),gJ (l.take (k+1))=max (gJ (l.take k)) (aD l[k])
 | [],_,h=>by simp at h
 | x::l,0,_=>by simp[gJ]
 | x::l,k+1,h=>by
  simp only[List.take_succ_cons,gJ,List.getElem_cons_succ];rw[uA l k (by simpa using h)];omega
theorem xC:∀ (l:List aj) (k:Nat),cO (l.take k)≤cO l
 | [],_=>by simp
 | x::l,0=>by simp[cO]
 | x::l,k+1=>by simp only[List.take_succ_cons,cO];have:=xC l k;omega
theorem xX:∀ (l:List aj) (k:Nat),gJ (l.take k)≤gJ l
 | [],_=>by simp
 | x::l,0=>by simp[gJ]
 | x::l,k+1=>by simp only[List.take_succ_cons,gJ];have:=xX l k;omega
end
section
theorem eU {b:av}{name:ByteArray}{t:ax}(h:aM b name=some t):t∈b∧t.name=name:=by
 have h1:=List.mem_of_find?_eq_some h;have h2:=List.find?_some h;exact⟨h1,by simpa using h2⟩
theorem bE {t:ax}{id:Int}{f:ay}(h:aC t id=some f):f∈t.fields∧f.id=id:=by
 have h1:=List.mem_of_find?_eq_some h;have h2:=List.find?_some h;exact⟨h1,by simpa using h2⟩
theorem fJ {b:av}(h:aB b=0):b.length≤4∧IL b∧XY b:=by
 unfold aB at h;split at h
 ·simp at h
 ·split at h
  ·simp at h
  ·split at h
   ·simp at h
   ·rename_i h1 h2 h3
    exact⟨by omega,by simpa using h2,by simpa using h3⟩
theorem bq {b:av}(h:aB b=0){t:ax}(ht:t∈b)(he:t.enum=false):dU b t:=by
 obtain⟨_,h1,_⟩:=fJ h;obtain⟨i,hi,rfl⟩:=List.getElem_of_mem ht;have:=(h1 i hi).2.2;rw[he] at this;simpa[gq] using this
theorem fE {b:av}(h:aB b=0){t:ax}(ht:t∈b)(he:t.enum=true):Vj t:=by
 obtain⟨_,h1,_⟩:=fJ h;obtain⟨i,hi,rfl⟩:=List.getElem_of_mem ht;have:=(h1 i hi).2.2;rw[he] at this;simpa[ru] using this
theorem uD {b:av}(h:aB b=0){t:ax}(ht:t∈b)(he:t.enum=false):1≤aZ b 4 t.name∧aZ b 4 t.name≤12:=by
 obtain⟨_,_,h1⟩:=fJ h;obtain⟨i,hi,rfl⟩:=List.getElem_of_mem ht;exact h1 i hi he
theorem mF {α:Type}{R:α→α→Prop}(tr:∀ a b c,R a b→R b c→R a c):∀ (l:List α),(∀ i (h:i<l.length),∀ (_:0<i),R l[i-1] l[i])→l.Pairwise R
 | [],_=>.nil
 | [a],_=>by simp
 | a::b::l,h=>by
  have ht:=mF tr (b::l) (fun i hi h0=>by
   have:=h (i+1) (by simp at hi ⊢;omega) (by omega);obtain⟨j,rfl⟩:∃ j,i=j+1:=⟨i-1,by omega⟩;simpa using this)
  have hab:R a b:=h 1 (by simp) (by omega);refine List.pairwise_cons.2 ⟨fun c hc=>?_,ht⟩;rcases List.mem_cons.1 hc with rfl | hc
  ·exact hab
  ·exact tr _ _ _ hab ((List.pairwise_cons.1 ht).1 c hc)
theorem qo {b:av}{t:ax}(h:dU b t):t.fields.Pairwise (fun f g=>f.id<g.id) :=
 mF (R:=fun f g:ay=>f.id<g.id) (fun _ _ _ h1 h2=>Int.lt_trans h1 h2) _ fun i hi h0=>(h.2.2.2.2 i hi).2.1 h0
theorem bC {b:av}{t:ax}(h:dU b t){f:ay}(hf:f∈t.fields):iC b f:=by
 obtain⟨i,hi,rfl⟩:=List.getElem_of_mem hf;exact(h.2.2.2.2 i hi).1
theorem NJ {α:Type}{k:α→Int}:∀ {l:List α} {f:α},l.Pairwise (fun f g=>k f<k g)→f∈l→l.find? (fun g=>decide (k g=k f))=some f
 | a::l,f,hs,hf=>by
  rw[List.find?_cons];rcases List.mem_cons.1 hf with rfl | h
  ·simp
  ·have:=(List.pairwise_cons.1 hs).1 f h;have hne:¬ k a=k f:=by omega
   simp only[hne,decide_false];exact NJ (List.pairwise_cons.1 hs).2 h
theorem jB {b:av}{t:ax}(h:dU b t){f:ay}(hf:f∈t.fields):aC t f.id=some f:=NJ (qo h) hf
theorem gZ {b:av}(hg:aB b=0){f:ay}(hf:iC b f)(hk:f.kind=5):∃ t,aM b f.type=some t∧typeOf b f.type=t∧t∈b∧t.name=f.type∧t.enum=false∧dU b t:=by
 have h1:=(hf.2.2.2.2.2.2.2).2 (by omega);obtain⟨t,ht⟩:=Option.isSome_iff_exists.1 h1.1;have h2:=h1.2;rw[ht] at h2;have he:t.enum=false:=by simpa[hk] using h2
 exact⟨t,ht,by rw[typeOf,ht];rfl,(eU ht).1,(eU ht).2,he,bq hg (eU ht).1 he⟩
theorem rY {b:av}(hg:aB b=0){f:ay}(hf:iC b f)(hk:f.kind=4):∃ t,aM b f.type=some t∧typeOf b f.type=t∧t.enum=true∧Vj t:=by
 have h1:=(hf.2.2.2.2.2.2.2).2 (by omega);obtain⟨t,ht⟩:=Option.isSome_iff_exists.1 h1.1;have h2:=h1.2;rw[ht] at h2;have he:t.enum=true:=by simpa[hk] using h2
 exact⟨t,ht,by rw[typeOf,ht];rfl,he,fE hg (eU ht).1 he⟩
def mR (t:ax)(i j:Int):Prop:=i≤j∧(i=j→((aC t i).getD .zero).rule=3)
theorem mR.trans {t:ax}{a b c:Int}(h1:mR t a b)(h2:mR t b c):mR t a c :=
 ⟨Int.le_trans h1.1 h2.1,fun h=>h1.2 (by have:=h1.1;have:=h2.1;omega)⟩
theorem agE {t:ax}{last:Option Int}{id:Int}:mJ t last id=0↔(aC t id).isSome=true∧∀ k,last=some k→mR t k id:=by
 unfold mJ;cases hf:aC t id with
 | none=>simp
 | some f =>
  cases last with
  | none=>simp
  | some k =>
   simp only[Option.isSome_some,Option.some.injEq,true_and,forall_eq',mR]
   by_cases h1:id<k
   ·rw[if_pos h1];simp;omega
   ·rw[if_neg h1]
    by_cases h2:k=id∧f.rule≠3
    ·rw[if_pos h2];obtain⟨rfl,h2⟩:=h2;simp[hf,h2]
    ·rw[if_neg h2];simp only[true_iff];refine⟨by omega,?_⟩;rintro rfl;rw[hf];simp at h2;exact h2
def vR (b:av)(t:ax)(id:Int)(x:aj):Prop :=
 eO b ((aC t id).getD .zero) x=0∧(((aC t id).getD .zero).kind=5→cz b (typeOf b ((aC t id).getD .zero).type) x=0)
theorem MR (b:av)(t:ax):∀ (l:List aj) (ids:List Int) (last:Option Int),ids.length=l.length →
  (eT b t last ids l=0↔(∀ id∈ids,(aC t id).isSome=true∧∀ k,last=some k→mR t k id)∧ids.Pairwise (mR t)∧∀ p∈ids.zip l,vR b t p.1 p.2)
 | [],ids,last,h=>by
  have:ids=[]:=List.eq_nil_of_length_eq_zero (by simpa using h);subst this;simp[eT]
 | x::l,[],last,h=>by simp at h
 | x::l,id::ids,last,h=>by
  have ih:=MR b t l ids (some id) (by simpa using h);have hs:eT b t last (id::ids) (x::l)=0↔mJ t last id=0∧vR b t id x∧eT b t (some id) ids l=0:=by
   rw[eT]
   by_cases h1:mJ t last id=0
   ·rw[if_neg (by simpa using h1)];unfold vR
    by_cases h2:eO b ((aC t id).getD .zero) x=0
    ·rw[if_neg (by simpa using h2)]
     by_cases h3:((aC t id).getD .zero).kind=5∧cz b (typeOf b ((aC t id).getD .zero).type) x≠0
     ·rw[if_pos h3];simp[h1,h2,h3.1,h3.2]
     ·rw[if_neg h3];have h4:((aC t id).getD .zero).kind=5→cz b (typeOf b ((aC t id).getD .zero).type) x=0:=by
       intro h5
       by_cases h6:cz b (typeOf b ((aC t id).getD .zero).type) x=0
       ·exact h6
       ·exact absurd ⟨h5,h6⟩ h3
      simp[h1,h2];intro _;exact h4
    ·rw[if_pos h2];simp[h2]
   ·rw[if_pos h1];simp[h1]
  rw[hs,ih,agE];simp only[Option.some.injEq,forall_eq',List.mem_cons,forall_eq_or_imp,List.pairwise_cons,List.zip_cons_cons];constructor
  ·rintro⟨⟨a1,a2⟩,b1,c1,c2,c3⟩;exact⟨⟨⟨a1,a2⟩,fun i hi=>⟨(c1 i hi).1,fun k hk=>(a2 k hk).trans (c1 i hi).2⟩⟩,⟨fun i hi=>(c1 i hi).2,c2⟩,b1,c3⟩
  ·rintro⟨⟨⟨a1,a2⟩,a3⟩,⟨b1,b2⟩,c1,c2⟩;exact⟨⟨a1,a2⟩,c1,fun i hi=>⟨(a3 i hi).1,b1 i hi⟩,b2,c2⟩
theorem iO (b:av)(t:ax)(v:aj):cz b t v=0↔v.kind=2∧v.ids.length=v.l.length∧v.n=0∧v.s.size=0∧(∀ id∈v.ids,(aC t id).isSome=true)∧v.ids.Pairwise (mR t)∧(∀ p∈v.ids.zip v.l,vR b t p.1 p.2)∧qV t v.ids=true:=by
 obtain⟨kind,n,s,ids,l⟩:=v;simp only[cz,aj.kind,aj.ids,aj.l,aj.n,aj.s]
 by_cases h1:kind=2
 ·rw[if_neg (by simpa using h1)]
  by_cases h2:ids.length≠l.length∨n≠0∨s.size≠0
  ·rw[if_pos h2];constructor
   ·intro h;simp at h
   ·rintro⟨_,a,b,c,_⟩;omega
  ·rw[if_neg h2];have hl:ids.length=l.length:=by omega
   have:=MR b t l ids none hl
   by_cases h3:eT b t none ids l=0
   ·rw[if_neg (by simpa using h3)];have:=this.1 h3
    by_cases h4:qV t ids=true
    ·rw[if_pos h4];simp only[true_iff];exact⟨h1,hl,by omega,by omega,fun i hi=>(this.1 i hi).1,this.2.1,this.2.2,h4⟩
    ·rw[if_neg h4];simp[h4]
   ·rw[if_pos h3];constructor
    ·intro h;exact absurd h h3
    ·rintro⟨_,_,_,_,a,b,c,_⟩;exact this.2 ⟨fun i hi=>⟨a i hi,fun k hk=>by cases hk⟩,b,c⟩
 ·rw[if_pos h1];simp[h1]
theorem Ji {β:Type}(k:Int):∀ (L:List (Int × β)),L.Pairwise (fun p q=>p.1≤q.1)→(∀ p∈L,k≤p.1)→L.filter (fun p=>decide (p.1=k))++L.filter (fun p=>decide (p.1≠k))=L
 | [],_,_=>rfl
 | a::L,hs,hk=>by
  have ih:=Ji k L (List.pairwise_cons.1 hs).2 (fun p hp=>hk p (by simp[hp]))
  by_cases h:a.1=k
  ·simp only[List.filter_cons,h,decide_true,if_true,ne_eq,not_true,decide_false];simpa using ih
  ·have h1:L.filter (fun p=>decide (p.1=k))=[]:=by
    rw[List.filter_eq_nil_iff];intro p hp;have:=(List.pairwise_cons.1 hs).1 p hp;have:=hk a (by simp);simp;omega
   rw[h1] at ih;simp only[List.filter_cons,h,decide_false,ne_eq,not_false_eq_true,decide_true,if_true,h1];simpa using ih
theorem sZ {β:Type}:∀ (F:List Int) (L:List (Int × β)),F.Pairwise (· < ·)→L.Pairwise (fun p q=>p.1≤q.1)→(∀ p∈L,p.1∈F)→F.flatMap (fun k=>L.filter (fun p=>decide (p.1=k)))=L
 | [],L,_,_,h=>by
  cases L with
  | nil=>rfl
  | cons a L=>exact absurd (h a (by simp)) (by simp)
 | k::F,L,hF,hL,h=>by
  have hk:=List.pairwise_cons.1 hF;have hlo:∀ p∈L,k≤p.1:=by
   intro p hp;rcases List.mem_cons.1 (h p hp) with h1 | h1
   ·omega
   ·have:=hk.1 _ h1;omega
  have ih:=sZ F (L.filter (fun p=>decide (p.1≠k))) hk.2 (hL.filter _) (fun p hp=>by
   simp only[List.mem_filter,decide_eq_true_eq] at hp;rcases List.mem_cons.1 (h p hp.1) with h1 | h1
   ·exact absurd h1 hp.2
   ·exact h1)
  have e:F.flatMap (fun k'=>L.filter (fun p=>decide (p.1=k')))=F.flatMap (fun k'=>(L.filter (fun p=>decide (p.1≠k))).filter (fun p=>decide (p.1=k'))):=by
   have hmem:∀ k'∈F,k<k':=hk.1;clear ih hF hk h
   induction F with
   | nil=>rfl
   | cons a F ih =>
    rw[List.flatMap_cons,List.flatMap_cons,ih (fun x hx=>hmem x (by simp[hx]))]
    congr 1
    rw[List.filter_filter];apply List.filter_congr;intro p _;have:=hmem a (by simp)
    by_cases hp:p.1=a
    ·simp[hp];omega
    ·simp[hp]
  rw[List.flatMap_cons,e,ih];exact Ji k L hL hlo
theorem zip_fst {α β:Type}:∀ (a:List α) (b:List β),a.length=b.length→(a.zip b).map (·.1)=a
 | [],_,_=>by simp
 | a::as,[],h=>by simp at h
 | a::as,b::bs,h=>by simp[zip_fst as bs (by simpa using h)]
theorem OZ {α β:Type}:∀ (a:List α) (b:List β),a.length=b.length→(a.zip b).map (·.2)=b
 | [],[],_=>by simp
 | [],b::bs,h=>by simp at h
 | a::as,[],h=>by simp at h
 | a::as,b::bs,h=>by simp[OZ as bs (by simpa using h)]
theorem DW {α β:Type}{R:α→α→Prop}:∀ (a:List α) (b:List β),a.Pairwise R→(a.zip b).Pairwise (fun p q=>R p.1 q.1)
 | [],_,_=>by simp
 | a::as,[],_=>by simp
 | a::as,b::bs,h=>by
  have:=List.pairwise_cons.1 h;exact List.pairwise_cons.2 ⟨fun p hp=>this.1 _ (List.of_mem_zip hp).1,DW as bs this.2⟩
theorem ow {l:List Int}{n:Int}:dV l n=true↔n∈l:=by
 unfold dV;simp
theorem ahk {b:av}{t:ax}(hm:dU b t)(k:Nat){ids:List Int}{l:List aj}(hl:ids.length=l.length)(hk:∀ id∈ids,(aC t id).isSome=true)(hf:ids.Pairwise (mR t))(hu:qV t ids=true) :
  kz b k t ids l=vI ids l:=by
 have e1:∀ f∈t.fields,eQ b k ids l f=(ids.zip l).filter fun p=>decide (p.1=f.id):=by
  intro f hf;unfold eQ;rw[if_neg,List.nil_append];rintro⟨h1,h2⟩;have:=List.all_eq_true.1 hu f hf;simp[h1,h2] at this
 have e2:t.fields.flatMap (eQ b k ids l)=ids.zip l:=by
  have:t.fields.flatMap (eQ b k ids l)=(t.fields.map (·.id)).flatMap (fun i=>(ids.zip l).filter fun p=>decide (p.1=i)):=by
   rw[List.flatMap_map];rw[List.flatMap_def,List.flatMap_def,List.map_congr_left e1]
  rw[this];refine sZ _ _ ?_ ((DW ids l hf).imp fun h=>h.1) ?_
  ·rw[List.pairwise_map];exact qo hm
  ·intro p hp;have:=hk p.1 (List.of_mem_zip hp).1;obtain⟨f,hf⟩:=Option.isSome_iff_exists.1 this;have:=bE hf;exact List.mem_map.2 ⟨f,this.1,this.2⟩
 unfold kz;rw[e2,zip_fst _ _ hl,OZ _ _ hl]
def isLet (c:UInt8):Bool:=decide (97≤c.toNat∧c.toNat≤122)
def jK (c:UInt8):Bool:=decide (48≤c.toNat∧c.toNat≤57)
def nV (c:UInt8):Bool:=decide (c.toNat=32∨c.toNat=10∨c.toNat=9∨c.toNat=13)
def tX (c:UInt8):Bool:=decide (c.toNat=123∨c.toNat=125∨c.toNat=59)
def jJ:Nat→List UInt8→Option (List ByteArray)
 | 0,_=>some []
 | _+1,[]=>some []
 | k+1,c::l =>
  if nV c then jJ k l
  else if tX c then (jJ k l).map (⟨#[c]⟩ :: ·)
  else if isLet c then (jJ k (l.dropWhile isLet)).map (⟨(c::l.takeWhile isLet).toArray⟩ :: ·)
  else if decide (c.toNat=45)||jK c then (jJ k (l.dropWhile jK)).map (⟨(c::l.takeWhile jK).toArray⟩ :: ·)
  else none
structure Rd where
 l:List ByteArray
 bad:Bool
def Rd.next (r:Rd):ByteArray × Rd:=match r.l with
 | []=>(⟨#[]⟩,⟨[],true⟩)
 | s::l=>(s,⟨l,r.bad⟩)
def Rd.take (r:Rd)(s:ByteArray):Rd:=if r.next.1=s then r.next.2 else ⟨r.next.2.l,true⟩
def Rd.at_ (r:Rd)(s:ByteArray):Bool:=match r.l with
 | []=>false
 | x::_=>decide (x=s)
def isW (s:ByteArray):Bool:=match bytes s with
 | []=>false
 | c::_=>isLet c
def Rd.word (r:Rd):ByteArray × Rd:=(r.next.1,if isW r.next.1 then r.next.2 else ⟨r.next.2.l,true⟩)
def Rq (s:ByteArray):Option Int:=match Lib.atoiAll (bytes s) with
 | .ok n=>if Lib.itoa n=bytes s ∧ -1099511627776≤n∧n≤1099511627776 then some n else none
 | _=>none
def Rd.number (r:Rd):Int × Rd:=match Rq r.next.1 with
 | some n=>(n,r.next.2)
 | none=>(0,⟨r.next.2.l,true⟩)
def mP:ByteArray:=⟨#[123]⟩
def il:ByteArray:=⟨#[125]⟩
def ku:ByteArray:=⟨#[59]⟩
def CE:ByteArray:=⟨#[103,111,110,101]⟩
def lH:ByteArray:=⟨#[109,101,115,115,97,103,101]⟩
def yu:ByteArray:=⟨#[101,110,117,109]⟩
def ajt:ByteArray:=⟨#[98,111,111,108]⟩
def amh:ByteArray:=⟨#[105,110,116]⟩
def aiw:ByteArray:=⟨#[116,101,120,116]⟩
def amT:ByteArray:=⟨#[111,110,101]⟩
def aji:ByteArray:=⟨#[109,97,121,98,101]⟩
def alp:ByteArray:=⟨#[109,97,110,121]⟩
def vX:List ByteArray:=[⟨#[]⟩,ajt,amh,aiw]
def DD:List ByteArray:=[⟨#[]⟩,amT,aji,alp]
def oo {α:Type}(lt:α→α→Bool)(x:α):List α→List α
 | []=>[x]
 | y::l=>if lt x y then y::oo lt x l else x::y::l
def bL {α:Type}(lt:α→α→Bool)(l:List α):List α:=(l.foldl (fun a x=>oo lt x a) []).reverse
def nP:Nat→Rd→List dC→List dC × Rd
 | 0,r,acc=>(acc,r)
 | k+1,r,acc=>if r.bad=false∧r.at_ il=false then nP k (r.number.2.word.2.take ku) (acc++[⟨r.number.2.word.1,r.number.1⟩]) else (acc,r)
def nO (a b:dC):Bool:=decide (a.n<b.n)
def kK (a b:ay):Bool:=decide (a.id<b.id)
def ltInt (a b:Int):Bool:=decide (a<b)
def kH (a b:ax):Bool:=decide (ltS a.name b.name)
def vS (r:Rd):ax × Rd :=
 let r2:=r.word.2.take mP
 let q:=nP (r2.l.length+2) r2 []
 (⟨r.word.1,true,[],[],bL nO q.1⟩,q.2.take il)
def mQ:Nat→Rd→List Int→List Int × Rd
 | 0,r,acc=>(acc,r)
 | k+1,r,acc=>if r.bad=false∧r.at_ ku=false then mQ k r.number.2 (acc++[r.number.1]) else (acc,r)
def kJ (r:Rd):ay × Rd :=
 let r1:=r.number.2
 let rule:=De DD r1.next.1
 let r2:=r1.next.2
 let ty:=r2.word.1
 let r3:=r2.word.2
 let r4:=r3.word.2
 (⟨r.number.1,r3.word.1,if 0<De vX ty then ⟨#[]⟩ else ty,if 0<De vX ty then De vX ty else 0,rule⟩,⟨r4.l,r4.bad||decide (rule<1)⟩)
def jH:Nat→Rd→List ay→List Int→List ay × List Int × Rd
 | 0,r,fs,gs=>(fs,gs,r)
 | k+1,r,fs,gs=>if r.bad=false∧r.at_ il=false then
   (if r.at_ CE then jH k ((mQ (r.l.length+2) r.next.2 gs).2.take ku) fs (mQ (r.l.length+2) r.next.2 gs).1
   else jH k ((kJ r).2.take ku) (fs++[(kJ r).1]) gs)
  else (fs,gs,r)
def mZ (r:Rd):ax × Rd :=
 let r2:=r.word.2.take mP
 let q:=jH (r2.l.length+2) r2 [] []
 (⟨r.word.1,false,bL kK q.1,bL ltInt q.2.1,[]⟩,q.2.2.take il)
def jh:Nat→Rd→List ax→List ax × Rd
 | 0,r,acc=>(acc,r)
 | k+1,r,acc=>if 0<r.l.length∧r.bad=false then
   (if r.next.1=lH then jh k (mZ r.next.2).2 (acc++[(mZ r.next.2).1])
   else if r.next.1=yu then jh k (vS r.next.2).2 (acc++[(vS r.next.2).1])
   else (acc,⟨r.next.2.l,true⟩))
  else (acc,r)
def Aj (b:av)(f:ay):ay:=if f.kind=0 then { f with kind:=if (aM b f.type).isSome&&((aM b f.type).getD .zero).enum then 4 else 5 } else f
def rJ (b:av):av:=b.map fun t=>{ t with fields:=t.fields.map (Aj b) }
def iZ (s:List UInt8):av × Int :=
 if 4000<s.length then ([],7)
 else match jJ s.length s with
  | none=>([],1)
  | some l =>
   let q:=jh (l.length+2) ⟨l,false⟩ []
   if q.2.bad then ([],1)
   else if aB (rJ (bL kH q.1))≠0 then ([],aB (rJ (bL kH q.1)))
   else (rJ (bL kH q.1),0)
def iw (x:dC):List UInt8:=[32,32]++Lib.itoa x.n++[32]++bytes x.name++[59,10]
def kindName (f:ay):ByteArray:=if f.kind<4 then (vX[f.kind.toNat]?).getD ⟨#[]⟩ else f.type
def lC (f:ay):ByteArray:=(DD[f.rule.toNat]?).getD ⟨#[]⟩
def fI (f:ay):List UInt8:=[32,32]++Lib.itoa f.id++[32]++bytes (lC f)++[32]++bytes (kindName f)++[32]++bytes f.name++[59,10]
def gU (l:List Int):List UInt8:=if l.length=0 then [] else [32,32,103,111,110,101]++l.flatMap (fun n=>32::Lib.itoa n)++[59,10]
def bV (t:ax):List UInt8 :=
 if t.enum then bytes yu++[32]++bytes t.name++[32,123,10]++t.items.flatMap iw++[125,10]
 else bytes lH++[32]++bytes t.name++[32,123,10]++t.fields.flatMap fI++gU t.gone++[125,10]
def pU (b:av):List UInt8 × Int:=if aB b≠0 then ([],aB b) else (b.flatMap bV,0)
section
variable {α:Type}{lt:α→α→Bool}
theorem VR (x:α):∀ (Q S:List α),(∀ y∈Q,lt x y=true)→oo lt x (Q++S)=Q++oo lt x S
 | [],_,_=>rfl
 | y::Q,S,h=>by
  rw[List.cons_append,oo,if_pos (h y (by simp)),VR x Q S (fun z hz=>h z (by simp[hz]))];rfl
theorem agD (x:α)(S:List α)(h:∀ y,S.head? = some y→lt x y=false):oo lt x S=x::S:=by
 cases S with
 | nil=>rfl
 | cons y S=>rw[oo,if_neg (by simp[h y rfl])]
theorem ZF (x:α):∀ (S:List α),(oo lt x S).length=S.length+1
 | []=>rfl
 | y::S=>by
  rw[oo];split
  ·simp[ZF x S]
  ·simp
theorem adt (l:List α)(x:α):bL lt (l++[x])=(oo lt x (bL lt l).reverse).reverse:=by
 unfold bL;rw[List.foldl_append];simp
theorem nu (l:List α):(bL lt l).length=l.length:=by
 unfold bL;rw[List.length_reverse];have:∀ (m acc:List α),(m.foldl (fun a x=>oo lt x a) acc).length=m.length+acc.length:=by
  intro m
  induction m with
  | nil=>intro acc;simp
  | cons x m ih=>intro acc;rw[List.foldl_cons,ih,ZF];simp;omega
 simpa using this l []
theorem amy {P:List α}{x:α}{j:Nat}(ha:∀ y∈P.drop j,lt x y=true)(hs:∀ (h:0<j) (h2:j-1<P.length),lt x P[j-1]=false)(hj:j≤P.length) :
  (oo lt x P.reverse).reverse=P.take j++x::P.drop j:=by
 have e:P.reverse=(P.drop j).reverse++(P.take j).reverse:=by rw[←List.reverse_append,List.take_append_drop]
 rw[e,VR x _ _ (fun y hy=>ha y (List.mem_reverse.1 hy)),agD]
 ·simp
 ·intro y hy;rw[List.head?_reverse,List.getLast?_eq_getElem?,List.length_take,Nat.min_eq_left hj] at hy
  by_cases h0:0<j
  ·have h2:j-1<P.length:=by omega
   rw[List.getElem?_take,if_pos (by omega),List.getElem?_eq_getElem h2] at hy;injection hy with hy
   rw[←hy];exact hs h0 h2
  ·obtain rfl:j=0:=by omega
   simp at hy
def Mid (lt:α→α→Bool)(xs:List α)(i j:Nat)(ys:List α):Prop :=
 ∃ (x:α) (_:xs[i]? = some x),j≤i∧ys=(bL lt (xs.take i)).take j++x::((bL lt (xs.take i)).drop j++xs.drop (i+1))∧∀ y∈(bL lt (xs.take i)).drop j,lt x y=true
theorem Ij {xs:List α}{i:Nat}(hi:i≤xs.length):(bL lt (xs.take i)).length=i:=by rw[nu,List.length_take];omega
theorem Fz {xs ys:List α}{i:Nat}(hi:i<xs.length)(h:ys=bL lt (xs.take i)++xs.drop i):Mid lt xs i i ys:=by
 have hl:(bL lt (xs.take i)).length=i:=Ij (by omega);refine⟨xs[i],List.getElem?_eq_getElem hi,Nat.le_refl _,?_,?_⟩
 ·rw[h];generalize bL lt (xs.take i)=P at hl ⊢;rw[List.drop_eq_getElem_cons hi,List.take_of_length_le (by omega),List.drop_eq_nil_of_le (as:=P) (by omega)];rfl
 ·generalize bL lt (xs.take i)=P at hl ⊢;rw[List.drop_eq_nil_of_le (by omega)];intro y hy;cases hy
theorem mid_step {xs ys:List α}{i q:Nat}(hi:i<xs.length)(h:Mid lt xs i (q+1) ys)(h1:q+1<ys.length)(hlt:lt ys[q+1] ys[q]=true):Mid lt xs i q ((ys.set (q+1) ys[q]).set q ys[q+1]):=by
 obtain⟨x,hx,hq,he,ha⟩:=h;have hl:(bL lt (xs.take i)).length=i:=Ij (by omega);obtain⟨P,hP⟩:=exE (bL lt (xs.take i));rw[←hP] at he ha hl;have hqP:q<P.length:=by omega
 have hd:P.drop q=P[q]::P.drop (q+1):=List.drop_eq_getElem_cons hqP;have ht:P.take (q+1)=P.take q++[P[q]]:=List.take_succ_eq_append_getElem hqP;have hlt':(P.take q).length=q:=by rw[List.length_take];omega
 have he2:ys=P.take q++P[q]::x::(P.drop (q+1)++xs.drop (i+1)):=by rw[he,ht,List.append_assoc];rfl
 have y1:ys[q+1]=x:=by
  have:ys[q+1]? = some x:=by
   rw[he2,List.getElem?_append_right (by omega),hlt',show q+1-q=1 by omega];rfl
  rw[List.getElem?_eq_getElem h1] at this;injection this
 have y0:ys[q]=P[q]:=by
  have:ys[q]? = some P[q]:=by
   rw[he2,List.getElem?_append_right (by omega),hlt',Nat.sub_self];rfl
  rw[List.getElem?_eq_getElem (by omega)] at this;injection this
 rw[y1,y0] at hlt ⊢;refine⟨x,hx,by omega,?_,?_⟩
 ·rw[←hP,hd,he2,List.set_append,if_neg (by omega),hlt',show q+1-q=1 by omega,List.set_append,if_neg (by omega),hlt',Nat.sub_self];rfl
 ·rw[←hP,hd];intro y hy;rcases List.mem_cons.1 hy with rfl | hy
  ·exact hlt
  ·exact ha y hy
theorem mid_end {xs ys:List α}{i j:Nat}(hi:i<xs.length)(h:Mid lt xs i j ys)(hs:∀ (_:0<j) (h1:j<ys.length),lt ys[j] ys[j-1]=false):ys=bL lt (xs.take (i+1))++xs.drop (i+1):=by
 obtain⟨x,hx,hq,he,ha⟩:=h;have hl:(bL lt (xs.take i)).length=i:=Ij (by omega);obtain⟨P,hP⟩:=exE (bL lt (xs.take i));rw[←hP] at he ha hl;have hlt':(P.take j).length=j:=by rw[List.length_take];omega
 have hxi:xs.take (i+1)=xs.take i++[x]:=by
  rw[List.take_succ_eq_append_getElem hi];rw[List.getElem?_eq_getElem hi] at hx;injection hx with hx
  rw[hx]
 rw[hxi,adt,←hP,amy ha (fun h0 h2=>?_) (by omega),he]
 ·simp
 ·have hyl:j<ys.length:=by rw[he];simp;omega
  have:=hs h0 hyl;have y1:ys[j]=x:=by
   have:ys[j]? = some x:=by rw[he,List.getElem?_append_right (by omega),hlt',Nat.sub_self];rfl
   rw[List.getElem?_eq_getElem hyl] at this;injection this
  have y0:ys[j-1]=P[j-1]:=by
   have:ys[j-1]? = some P[j-1]:=by
    rw[he,List.getElem?_append_left (by omega),List.getElem?_take,if_pos (by omega),List.getElem?_eq_getElem h2]
   rw[List.getElem?_eq_getElem (by omega)] at this;injection this
  rw[y1,y0] at this;exact this
theorem Jd {ys:List α}{i j:Nat}(hi:i<ys.length)(hj:j<ys.length){Q:α→Prop}(h:∀ y∈ys,Q y):∀ y∈(ys.set i ys[j]).set j ys[i],Q y:=by
 intro y hy;rcases List.mem_or_eq_of_mem_set hy with hy | rfl
 ·rcases List.mem_or_eq_of_mem_set hy with hy | rfl
  ·exact h y hy
  ·exact h _ (List.getElem_mem hj)
 ·exact h _ (List.getElem_mem hi)
end
end
section
inductive nz {α β:Type} (P:α→β→Prop):List α→List β→Prop
 | nil:nz P [] []
 | cons {x:α} {y:β} {l:List α} {m:List β}:P x y→nz P l m→nz P (x::l) (y::m)
section
variable {α β:Type}{P:α→β→Prop}
theorem nz.len {l:List α}{m:List β}(h:nz P l m):l.length=m.length:=by induction h <;> simp_all
theorem nz.get {l:List α}{m:List β}(h:nz P l m):∀ {i:Nat} (h1:i<l.length) (h2:i<m.length),P l[i] m[i]:=by
 induction h with
 | nil=>intro i h1;simp at h1
 | cons hx _ ih =>
  intro i h1 h2;cases i with
  | zero=>exact hx
  | succ i=>exact ih (by simpa using h1) (by simpa using h2)
theorem nz.ajC:∀ {l:List α} {m:List β},l.length=m.length→(∀ i (h1:i<l.length) (h2:i<m.length),P l[i] m[i])→nz P l m
 | [],[],_,_=>.nil
 | [],_::_,h,_=>by simp at h
 | _::_,[],h,_=>by simp at h
 | x::l,y::m,h,hg=>.cons (hg 0 (by simp) (by simp)) (nz.ajC (by simpa using h) fun i h1 h2=>hg (i+1) (by simpa using h1) (by simpa using h2))
theorem nz.append {l l':List α}{m m':List β}(h:nz P l m)(h':nz P l' m'):nz P (l++l') (m++m'):=by
 induction h with
 | nil=>exact h'
 | cons hx _ ih=>exact .cons hx ih
theorem nz.mono {Q:α→β→Prop}{l:List α}{m:List β}(h:nz P l m)(hq:∀ x y,x∈l→P x y→Q x y):nz Q l m:=by
 induction h with
 | nil=>exact .nil
 | cons hx _ ih=>exact .cons (hq _ _ (List.mem_cons_self ..) hx) (ih fun x y hm=>hq x y (List.mem_cons_of_mem _ hm))
theorem nz.left {l:List α}{m:List β}(h:nz P l m):∀ x∈l,∃ y∈m,P x y:=by
 induction h with
 | nil=>intro x hx;cases hx
 | cons hx _ ih =>
  intro z hz;rcases List.mem_cons.1 hz with rfl | hz
  ·exact⟨_,List.mem_cons_self ..,hx⟩
  ·obtain⟨y,hy,h⟩:=ih z hz;exact⟨y,List.mem_cons_of_mem _ hy,h⟩
theorem nz.akr {l:List α}(h:∀ x∈l,∃ y,P x y):∃ m,nz P l m:=by
 induction l with
 | nil=>exact⟨[],.nil⟩
 | cons x l ih =>
  obtain⟨y,hy⟩:=h x (List.mem_cons_self ..);obtain⟨m,hm⟩:=ih fun x hx=>h x (List.mem_cons_of_mem _ hx)
  exact⟨y::m,.cons hy hm⟩
theorem nz.set {l:List α}{m:List β}(h:nz P l m){x:α}{y:β}(hx:P x y):∀ i,nz P (l.set i x) (m.set i y):=by
 induction h with
 | nil=>intro i;exact .nil
 | cons h1 h2 ih =>
  intro i;cases i with
  | zero=>exact .cons hx h2
  | succ i=>exact .cons h1 (ih i)
theorem nz.rev {l:List α}{m:List β}(h:nz P l m):nz P l.reverse m.reverse:=by
 induction h with
 | nil=>exact .nil
 | cons hx _ ih=>simpa using ih.append (.cons hx .nil)
variable {lt:α→α→Bool}{lt':β→β→Bool}
theorem aiQ (hlt:∀ a b a' b',P a a'→P b b'→lt a b=lt' a' b'){x:α}{y:β}(hx:P x y){l:List α}{m:List β}(h:nz P l m):nz P (oo lt x l) (oo lt' y m):=by
 induction h with
 | nil=>exact .cons hx .nil
 | cons h1 h2 ih =>
  rw[oo,oo,hlt _ _ _ _ hx h1];split
  ·exact .cons h1 ih
  ·exact .cons hx (.cons h1 h2)
theorem UR (hlt:∀ a b a' b',P a a'→P b b'→lt a b=lt' a' b'){l:List α}{m:List β}(h:nz P l m):nz P (bL lt l) (bL lt' m):=by
 unfold bL;refine nz.rev ?_;have key:∀ {l:List α} {m:List β},nz P l m→∀ {a:List α} {b:List β},nz P a b→nz P (l.foldl (fun a x=>oo lt x a) a) (m.foldl (fun a x=>oo lt' x a) b):=by
  intro l m h
  induction h with
  | nil=>intro a b hab;exact hab
  | cons hx _ ih=>intro a b hab;exact ih (aiQ hlt hx hab)
 exact key h .nil
end
def tK (b:av)(n:ByteArray):Bool:=(aM b n).isSome&&((aM b n).getD .zero).enum
def heads (b:av):List (ByteArray × Bool):=b.map fun t=>(t.name,t.enum)
theorem Jo:∀ (b b':av),heads b=heads b'→∀ n,tK b n=tK b' n
 | [],[],_,_=>rfl
 | [],_::_,h,_=>by simp[heads] at h
 | _::_,[],h,_=>by simp[heads] at h
 | t::b,t'::b',h,n=>by
  simp only[heads,List.map_cons,List.cons.injEq,Prod.mk.injEq] at h;obtain⟨⟨h1,h2⟩,h3⟩:=h;have ih:=Jo b b' h3 n;unfold tK aM at ih ⊢;rw[List.find?_cons,List.find?_cons,h1]
  by_cases e:t'.name=n
  ·simp[e,h2]
  ·simpa[e] using ih
def pz (e:ByteArray→Bool)(f:ay):ay:=if f.kind=0 then { f with kind:=if e f.type then 4 else 5 } else f
def qN (e:ByteArray→Bool)(t:ax):ax:={ t with fields:=t.fields.map (pz e) }
theorem Fj (b:av):rJ b=b.map (qN (tK b)):=rfl
theorem abM (e:ByteArray→Bool)(b:av):heads (b.map (qN e))=heads b:=by simp[heads,qN]
def Xa (t:ax):Prop:=t.name.size≤4000∧t.fields.length≤5000∧(∀ f∈t.fields,f.name.size≤4000∧f.type.size≤4000)∧∀ x∈t.items,x.name.size≤4000
def SG (t t':ax):Prop:=t.name=t'.name∧t.enum=t'.enum∧t.fields.length=t'.fields.length∧(t'.fields.length<20→t.fields=t'.fields)∧t.gone=t'.gone∧t.items.length=t'.items.length∧(t'.items.length<20→t.items=t'.items)∧Xa t
theorem acH {b:av}{t:ax}(ht:t∈b)(h:5<t.fields.length∨6<t.items.length):¬ IL b:=by
 intro hp;obtain⟨i,hi,rfl⟩:=List.getElem_of_mem ht;have:=(hp i hi).2.2;split at this
 ·have:=of_decide_eq_true this;obtain⟨-,-,h1,h2,-⟩:=this;omega
 ·have:=of_decide_eq_true this;obtain⟨h1,h2,-⟩:=this;omega
theorem Bv {b:av}(h:4<b.length):aB b=7:=if_pos h
theorem aaW {b:av}(h:¬ 4<b.length)(h2:¬ IL b):aB b=1:=by rw[aB,if_neg h,if_pos h2]
theorem Bp (b:av):(rJ b).length=b.length:=List.length_map ..
theorem aah {b:av}{t:ax}(ht:t∈b)(h:20≤t.fields.length∨20≤t.items.length):¬ IL (rJ b):=by
 rw[Fj];exact acH (List.mem_map_of_mem ht) (by show 5<(t.fields.map _).length∨6<t.items.length;rw[List.length_map];omega)
theorem agK {b u:av}(h:nz SG b u):aB (rJ b)=aB (rJ u)∧(aB (rJ u)=0→b=u):=by
 have hl:=h.len
 by_cases h4:4<u.length
 ·rw[Bv (b:=rJ b) (by rw[Bp];omega),Bv (b:=rJ u) (by rw[Bp];omega)];exact⟨rfl,fun h=>by cases h⟩
 by_cases hs:∀ t∈u,t.fields.length<20∧t.items.length<20
 ·have e:b=u:=by
   clear hl h4
   induction h with
   | nil=>rfl
   | cons hx _ ih =>
    rw[ih fun t ht=>hs t (List.mem_cons_of_mem _ ht)];obtain⟨s1,s2⟩:=hs _ (List.mem_cons_self ..);obtain⟨h1,h2,-,h3,h4,-,h5,-⟩:=hx
    congr 1
    rename_i x y _ _ _
    obtain⟨_,_,_,_,_⟩:=x;obtain⟨_,_,_,_,_⟩:=y;simp only at h1 h2 h3 h4 h5 s1 s2;rw[h1,h2,h3 s1,h4,h5 s2]
  subst e;exact⟨rfl,fun _=>rfl⟩
 ·have:∃ t∈u,20≤t.fields.length∨20≤t.items.length:=by
   refine Classical.byContradiction fun hn=>hs fun t ht=>⟨?_,?_⟩ <;> refine Classical.byContradiction fun hc=>hn ⟨t,ht,?_⟩ <;> omega
  obtain⟨t,ht,hlen⟩:=this;obtain⟨i,hi,rfl⟩:=List.getElem_of_mem ht;have hx:=h.get (i:=i) (by omega) hi;obtain⟨-,-,h1,-,-,h2,-⟩:=hx;rw[aaW (b:=rJ u) (by rw[Bp];exact h4) (aah ht hlen),aaW (b:=rJ b) (by rw[Bp];omega) (aah (List.getElem_mem (by omega:i<b.length)) (by omega))];exact⟨rfl,fun h=>by cases h⟩
theorem WU {b u:av}(hl:b.length=u.length)(h:u.length<20→nz SG b (bL kH u)):aB (rJ b)=aB (rJ (bL kH u))∧(aB (rJ (bL kH u))=0→b=bL kH u):=by
 by_cases h20:u.length<20
 ·exact agK (h h20)
 ·rw[Bv (b:=rJ b) (by rw[Bp];omega),Bv (b:=rJ (bL kH u)) (by rw[Bp,nu];omega)];exact⟨rfl,fun h=>by cases h⟩
theorem aks (a b a' b':ax)(h:SG a a')(h':SG b b'):kH a b=kH a' b':=by unfold kH;rw[h.1,h'.1]
end
section
open Go.RowKit
def aiL:List Value→Nat→List Value→List Value
 | F,_,[]=>F
 | F,o,c::cs=>aiL (F.set o c) (o+1) cs
theorem Zp:∀ (cs c P Q:List Value),c.length=cs.length→aiL (P++(c++Q)) P.length cs=P++(cs++Q)
 | [],c,P,Q,h=>by
  obtain rfl:c=[]:=List.eq_nil_of_length_eq_zero (by simpa using h);rfl
 | d::cs,[],P,Q,h=>by simp at h
 | d::cs,x::c,P,Q,h=>by
  have h':c.length=cs.length:=by simpa using h
  have e:(P++(x::c++Q)).set P.length d=(P++[d])++(c++Q):=by
   rw[List.set_append,if_neg (by omega)];simp
  have:=Zp cs c (P++[d]) Q h';simp only[List.length_append,List.length_singleton] at this;rw[aiL,e,this];simp
theorem Yq {k:Nat}{css:List (List Value)}(hall:∀ x∈css,x.length=k){i:Nat}(hi:i<css.length){cs:List Value}(hcs:cs.length=k):aiL css.flatten (i*k) cs=(css.set i cs).flatten:=by
 have e1:css=css.take i++(css[i]::css.drop (i+1)):=by
  rw[←List.drop_eq_getElem_cons hi,List.take_append_drop]
 have e2:css.set i cs=css.take i++(cs::css.drop (i+1)):=by
  rw[List.set_eq_take_append_cons_drop,if_pos hi]
 have hl:(css.take i).flatten.length=i*k:=by
  rw[qz k _ (fun x hx=>hall x (List.mem_of_mem_take hx)),List.length_take,Nat.min_eq_left (by omega)]
 rw[e2]
 conv=>lhs;rw[e1]
 rw[List.flatten_append,List.flatten_cons,List.flatten_append,List.flatten_cons,←hl];exact Zp cs _ _ _ (by rw[hall _ (List.getElem_mem hi),hcs])
section
variable {α:Type}{base e sz by_:Nat}{R:Rel α}{T:Nat→Prop}{w w':World}{v:Value}{xs:List α}
theorem Gv {g n cap:Nat}:∀ (cs:List Value) (o:Nat) (w:World) (F:List Value),w.ownsRow base e sz (.slice (some ⟨g,0,none⟩) n cap) n F →
  (setCells w g o cs).ownsRow base e sz (.slice (some ⟨g,0,none⟩) n cap) n (aiL F o cs)∧w.grownBy (setCells w g o cs) (some g)
 | [],_,w,_,h=>⟨h,aK (Below.refl _ _) _⟩
 | c::cs,o,w,F,h=>by
  obtain⟨a1,g1⟩:=h.stored o c;obtain⟨a2,g2⟩:=Gv cs (o+1) _ _ a1;exact⟨a2,aF g1 g2 (.inl rfl)⟩
theorem Own.store {g cap:Nat}(hR:Fair R)(h:Own base e sz R T w (.slice (some ⟨g,0,none⟩) xs.length cap) xs){i:Nat}(hi:i<xs.length){cs:List Value}{x:α}(hcs:cs.length=sz)(hx:R T w cs x) :
  Own base e sz R T (setCells w g (i*sz) cs) (.slice (some ⟨g,0,none⟩) xs.length cap) (xs.set i x)∧w.grownBy (setCells w g (i*sz) cs) (some g):=by
 obtain⟨css,h1,h2,h3,h4⟩:=h;have hT:¬ T g:=h3 g rfl;obtain⟨a,hg⟩:=Gv cs (i*sz) w _ h1;have hk:az T w (setCells w g (i*sz) cs):=az.bH hg (fun k e=>by injection e with e;rw[←e];exact hT);have hall:∀ c∈css,c.length=sz:=by
  intro c hc;obtain⟨j,hj,rfl⟩:=List.getElem_of_mem hc;exact(h4 j (xs[j]'(by omega)) _ (List.getElem?_eq_getElem (by omega)) (List.getElem?_eq_getElem hj)).1
 refine⟨⟨css.set i cs,?_,by simp[h2],h3,?_⟩,hg⟩
 ·rw[List.length_set,←Yq hall (by omega) hcs];exact a
 ·intro k y c hy hc
  by_cases e:k=i
  ·subst e;rw[List.getElem?_set_self (by omega)] at hy hc;simp only[Option.some.injEq] at hy hc;subst hy hc;exact⟨hcs,hR.keep hx hk⟩
  ·rw[List.getElem?_set_ne (fun h=>e h.symm)] at hy hc;obtain⟨b1,b2⟩:=h4 k y c hy hc;exact⟨b1,hR.keep b2 hk⟩
theorem Own.cells {g n cap:Nat}(h:Own base e sz R T w (.slice (some ⟨g,0,none⟩) n cap) xs){i:Nat}(hi:i<xs.length):∃ cs,cs.length=sz∧R T w cs xs[i]∧ik w g (i*sz) cs:=by
 obtain⟨css,h1,h2,h3,h4⟩:=h;have hn:n=xs.length:=by
  rcases h1.2 with ⟨hv,_⟩ | ⟨_,_,_,hv,_⟩
  ·injection hv with hv;cases hv
  ·injection hv
 subst hn;have hc:css[i]? = some (css[i]'(by omega)):=List.getElem?_eq_getElem (by omega);obtain⟨b1,b2⟩:=h4 i _ _ (List.getElem?_eq_getElem hi) hc;have hall:∀ c∈css,c.length=sz:=by
  intro c hc;obtain⟨j,hj,rfl⟩:=List.getElem_of_mem hc;exact(h4 j (xs[j]'(by omega)) _ (List.getElem?_eq_getElem (by omega)) (List.getElem?_eq_getElem hj)).1
 refine⟨_,b1,b2,fun j hj=>?_⟩;have hfl:=oD css sz i j _ hall hc (by omega);have hlen:css.flatten.length=css.length*sz:=qz sz _ hall;have hlt:i*sz+j<xs.length*sz:=by
  have:(i+1)*sz≤xs.length*sz:=Nat.mul_le_mul_right _ hi;rw[Nat.add_mul,Nat.one_mul] at this;omega
 rw[h1.cellAt _ hlt,hfl]
theorem Own.frozen {g n cap:Nat}(h:Own base e sz R T w (.slice (some ⟨g,0,none⟩) n cap) xs)(i:Nat):w.frozen? ⟨g,i,none⟩=false:=by
 obtain⟨css,h1,_⟩:=h;have hn:n=xs.length:=by
  rcases h1.2 with ⟨hv,_⟩ | ⟨_,_,_,hv,_⟩
  ·injection hv with hv;cases hv
  ·injection hv
 subst hn;exact h1.frozenAt i
theorem Own.len {g:Option Addr}{n cap:Nat}(h:Own base e sz R T w (.slice g n cap) xs):n=xs.length:=by
 obtain⟨css,h1,_⟩:=h;rcases h1.2 with ⟨hv,h0⟩ | ⟨_,_,_,hv,_⟩
 ·injection hv with _ hv;omega
 ·injection hv
theorem Own.qR {A:Option Addr}{n cap:Nat}(h:Own base e sz R T w (.slice A n cap) xs)(h0:0<xs.length):∃ g,A=some ⟨g,0,none⟩∧base≤g∧g<w.heap.size:=by
 obtain⟨css,h1,_⟩:=h;rcases h1.2 with ⟨hv,h00⟩ | ⟨g,c,cur,hv,hb,hh⟩
 ·omega
 ·injection hv with hv
  subst hv;exact⟨g,rfl,hb,(h1.lt g rfl).2⟩
end
end
end Go.Proofs.YtknnhpkjgnkcdaaGreatDoor
