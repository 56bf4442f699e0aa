/- Walks and plain laws. -/
import Derived.Test.YtknnhpkjgnkcdaaGreatDoorScmp
import Derived.Test.YtknnhpkjgnkcdaaGreatDoorLates
import Derived.Deep.DrawnRows
import Derived.Deep.Light
import Derived.Deep.DeepCutAuto
import Derived.Deep.MidRow
set_option linter.all false
set_option maxRecDepth 100000
set_option maxHeartbeats 20000000
namespace Go.Proofs.YtknnhpkjgnkcdaaGreatDoor
open Go.Proofs.Tryz
open Go.RowKit
attribute [local go_sem ↓] Go.wp_at_zero Go.wp_at_succ
class SK (α:Type) where
 te:TypeId
 sz:Nat
 enc:α→List Value
 Q:α→Prop
 cf:α→α→Int
 lt:α→α→Bool
 fc:Nat
 fi:Nat
 fw:Nat
 fr:Nat
 fs:Nat
 ft:Nat
 fS:Nat
 len:∀ x,(enc x).length=sz
 one:∀ x,(enc x).toArray.all (·.oneCell')=true
 size:(prog.info? te).map (·.size)=some sz
 row:∃ d,prog.underlying te=some d∧d.isRow=true
 cmp:∀ x y w,Q x→Q y→Calls prog fc #[.agg (enc x).toArray,.agg (enc y).toArray] w (Ret w (O (cf x y)))
 sgn:∀ x y,lt x y=decide (cf x y<0)
instance skI:SK dC:=⟨57,2,dD,jw,fun x y=>x.n-y.n,nO,70,148,211,185,149,103,69,fun _=>rfl,fun _=>by simp[dD,Value.oneCell'],by kernel_rfl,⟨.struct (prog.fieldsOf 57),by kernel_rfl,rfl⟩,fun x y w hx hy=>uX NoT NoT x y _ _ w rfl rfl hx hy,aex⟩
instance skF:SK ay:=⟨55,5,aI,gN,fun x y=>x.id-y.id,kK,67,135,209,179,136,100,66,fun _=>rfl,fun _=>by simp[aI,Value.oneCell'],by kernel_rfl,⟨.struct (prog.fieldsOf 55),by kernel_rfl,rfl⟩,fun x y w hx hy=>sS NoT NoT x y _ _ w rfl rfl hx hy,abt⟩
instance skR:SK fF:=⟨53,5,pG,ajI,fun x y=>Dh x.name y.name,uf,34,104,186,150,105,71,33,fun _=>rfl,fun _=>by simp[pG,Value.oneCell'],by kernel_rfl,⟨.struct (prog.fieldsOf 53),by kernel_rfl,rfl⟩,fun x y w hx hy=>wX NoT NoT x y _ _ w rfl rfl hx hy,aib⟩
structure aeS {α:Type} [SK α] (J:List α→Prop):Prop where
 swap:∀ {zs:List α} {q p:Nat} (h1:q<zs.length) (h0:p<zs.length),J zs→J ((zs.set q zs[p]).set p zs[q])
 q:∀ {zs:List α},J zs→∀ y∈zs,SK.Q y
def qj {α:Type}[SK α](J:List α→Prop)(base:Nat)(T:Nat→Prop)(g cap n:Nat)(w wr:World)(zs:List α):Prop :=
 zs.length=n∧J zs∧Own base (SK.te α) (SK.sz α) (dS SK.enc) T wr (.slice (some ⟨g,0,none⟩) n cap) zs∧w.grownBy wr (some g)
def anY {α:Type}[SK α](g q p:Nat)(A B:α)(W:World):Prop:=ik W g (q*SK.sz α) (SK.enc A)∧ik W g (p*SK.sz α) (SK.enc B)
theorem Kk (g:Nat):∀ (cs:List Value) (o:Nat) (w:World),w.setCells g o cs=setCells w g o cs
 | [],_,_=>rfl
 | _::cs,o,_=>Kk g cs (o+1) _
section
variable {α:Type}[SK α]{J:List α→Prop}{base g cap n:Nat}{T:Nat→Prop}{w wr W:World}{zs xs:List α}
theorem qj.below (h:qj J base T g cap n w wr zs)(hb:Below wr.heap.size wr W):qj J base T g cap n w W zs :=
 ⟨h.1,h.2.1,h.2.2.1.below (dS.fair _) hb,aF h.2.2.2 (aK hb (some g)) (.inl rfl)⟩
theorem qj.start (ho:Own base (SK.te α) (SK.sz α) (dS SK.enc) T w (.slice (some ⟨g,0,none⟩) xs.length cap) xs)(hq:J xs):qj J base T g cap xs.length w w xs:=⟨rfl,hq,ho,aK (Below.refl _ _) _⟩
theorem qj.there (h:qj J base T g cap n w W zs){i:Nat}(hi:i<zs.length):ik W g (i*SK.sz α) (SK.enc zs[i])∧W.there g (i*SK.sz α) (SK.enc zs[i]).toArray.size:=by
 obtain⟨cs,-,hr,hl⟩:=h.2.2.1.cells hi;obtain rfl:cs=SK.enc zs[i]:=hr;exact⟨hl,fun j hj=>⟨by rw[hl j (by simpa using hj),List.getElem?_eq_getElem (by simpa using hj)];rfl,h.2.2.1.frozen _⟩⟩
theorem qj.set (h:qj J base T g cap n w W zs){i:Nat}(hi:i<zs.length)(x:α)(hJ:J (zs.set i x)):qj J base T g cap n w (setCells W g (i*SK.sz α) (SK.enc x)) (zs.set i x):=by
 obtain⟨rfl,-,ho,hg⟩:=h;obtain⟨oe,ge⟩:=ho.store (dS.fair _) hi (SK.len x) (show dS SK.enc T W _ _ from rfl);exact⟨by simp,hJ,oe,aF hg ge (.inl rfl)⟩
theorem qj.two (h:qj J base T g cap n w wr zs)(hJ:aeS J){q p:Nat}(h1:q<zs.length)(h0:p<zs.length) :
  ∃ A B:α,zs[q]=A∧zs[p]=B∧Hid (∀ W,Below wr.heap.size wr W→anY g q p A B W)∧Hid (SK.Q A)∧Hid (SK.Q B) ∧
   Hid (∀ W,Below wr.heap.size wr W→W.there g (q*SK.sz α) (SK.enc B).toArray.size∧(setCells W g (q*SK.sz α) (SK.enc B)).there g (p*SK.sz α) (SK.enc A).toArray.size∧qj J base T g cap n w (setCells (setCells W g (q*SK.sz α) (SK.enc B)) g (p*SK.sz α) (SK.enc A)) ((zs.set q B).set p A)):=by
 have sz:∀ x y:α,(SK.enc x).toArray.size=(SK.enc y).toArray.size:=fun x y=>by simp only[List.size_toArray,SK.len]
 refine⟨zs[q],zs[p],rfl,rfl,fun W hb=>⟨((h.below hb).there h1).1,((h.below hb).there h0).1⟩,hJ.q h.2.1 _ (List.getElem_mem h1),hJ.q h.2.1 _ (List.getElem_mem h0),fun W hb=>?_⟩;have h':=h.below hb;have k:=(show qj (fun _=>True) base T g cap n w W zs from⟨h'.1,trivial,h'.2.2⟩).set h1 zs[p] trivial;have h0':p<(zs.set q zs[p]).length:=by rw[List.length_set];exact h0
 have k2:=k.set h0' zs[q] trivial;exact⟨sz zs[q] zs[p] ▸ (h'.there h1).2,sz _ zs[q] ▸ (k.there h0').2,k2.1,hJ.swap h1 h0 h.2.1,k2.2.2⟩
end
section
variable {α:Type}[SK α]{md:Region.Mode}{ops:Array Oper}{Q:Exit→Act→World→Prop}{lb:Nat→Bool}{S:World→Prop}{fuel g o:Nat}{listed:Array Bool}{oi:Oper}{a:Act}{w:World}{x y:Operand}{K:Act→World→Prop}{E:Prop}
theorem oG {id:Nat}(_:S w.drew)(lb:Nat→Bool)(hm:prog.follows .mixedOrders=true)(h:fK prog .any ops Q lb S ops.size (Array.replicate ops.size false) a w.drew):(Code.region id ops true).wp prog Q a w:=aJ S lb hm h
theorem tkM (A:α)(i:Nat)(hS:S w)(hs:∀ w,S w→ik w g o (SK.enc A))(h:fK prog md ops Q lb S fuel (listed.setIfInBounds i true) (a.put oi.dst (.agg (SK.enc A).toArray)) w)(hi:ops[i]? = some oi:=by exact rfl)(ho:oi.op=.load (SK.te α) x:=by exact rfl)(hx:a.eval x=.pointer (some ⟨g,o,none⟩):=by exact rfl)
  (hb:(Region.noSelect ops&&Region.free md ops listed i&&(Region.ready md ops listed).contains i&&qd md ops listed&&lb i&&LY md ops lb i)=true:=by kernel_rfl)
  (hQ:∀ c a w,Q (.panic c) (a.put oi.dst (.agg (SK.enc A).toArray)) w→Q (.panic c) a w:=by exact fun _ _ _ h=>h) (hw:Region.wanted oi (yielded ops a.tmps)=true:=by kernel_rfl):fK prog md ops Q lb S (fuel+1) listed a w:=by
 obtain⟨d,hu,hd⟩:=SK.row (α:=α);refine RF hi hb hQ ⟨hw,fun w' hw'=>?_⟩ hS h;unfold execOp;simp only[ho,hx,Instr.loadAt,Instr.sureAddr,Sem.run_bind,Sem.run_pure,Result.andThen_ok,run_loadVar_mid w' g o (SK.te α) (SK.enc A) d (fun j v hv=>(hs w' hw').at_ j hv) hu hd ((SK.size (α:=α)).trans (by rw[SK.len]))]
theorem stM (A:α)(hgd:oi.guard=none)(ho:oi.op=.store (SK.te α) x y)(ht:w.there g o (SK.enc A).toArray.size)(hx:a.eval x=.pointer (some ⟨g,o,none⟩))(hy:a.eval y=.agg (SK.enc A).toArray)(h:K (a.put oi.dst undef) (setCells w g o (SK.enc A))) :
  if Region.wanted oi (yielded ops a.tmps)=true then Oper.wp prog oi a w K Q else E:=by
 rw[if_pos (show Region.wanted oi (yielded ops a.tmps)=true by simp[Region.wanted,hgd])];exact wp_store_mid (SK.te α) x y ho g o _ hx hy ht ((SK.size (α:=α)).trans (by simp[SK.len])) (SK.one A) (by rw[Kk];exact h)
end
def ajv {α:Type}[SK α](J:List α→Prop)(base:Nat)(T:Nat→Prop)(g cap n:Nat)(w:World)(e:Ending)(w':World):Prop:=e=.returned (.tuple #[])∧∃ ys,qj J base T g cap n w w' ys
def amI {α:Type}[SK α](J:List α→Prop)(base:Nat)(T:Nat→Prop)(g cap n:Nat)(w:World)(P:Prop)(xs:List α)(e:Ending)(w':World):Prop:=e=.returned (.tuple #[])∧∃ ys,qj J base T g cap n w w' ys∧(P→ys=bL SK.lt xs)
def adO (F:{α:Type}→[SK α]→(List α→Prop)→Prop):Prop:=(∀ J:List dC→Prop,aeS J→F J)∧(∀ J:List ay→Prop,aeS J→F J)∧∀ J:List fF→Prop,aeS J→F J
def ait {α:Type}[SK α](J:List α→Prop):Prop:=∀ (base:Nat) (T:Nat→Prop) (g cap n:Nat) (w W:World) (xs:List α),qj J base T g cap n w W xs→n≤1000000→∀ a b:Nat,a≤b→b≤n →
 Calls prog (SK.fi α) #[.slice (some ⟨g,0,none⟩) n cap,O a,O b,.func (.func (SK.fc α)) #[] #[]] W (amI J base T g cap n w (a=0∧b=n) xs)
theorem ami:adO ait:=by
 refine⟨?_,?_,?_⟩
 all_goals as_aux_lemma =>
  intro J hJ base T g cap n w W xs hI hn a b hab hb;have HI:=hidL hI;clear hI;have Hxl:=hidL (HI.out.1:xs.length=n);have e0:IntKind.i64.wrap ((a:Int)+1)=(a:Int)+1:=IntWalk.i64_in _ (by omega);dsimp only[SK.fi,SK.fw,SK.fr,SK.fs,SK.ft,SK.fc]
  first
   | (go_enter func148,ntmps148)
   | (go_enter func135,ntmps135)
   | (go_enter func104,ntmps104)
  go_wp2_with fail;clear e0;go_loopw [8] (fun i wr=>∃ m:Nat,∃ ys,i=O m∧a+1≤m∧qj J base T g cap n w wr ys∧(a=0→ys=bL SK.lt (xs.take m)++xs.drop m)) (fun i _=>b-(intOf i).toNat)
  case atStart=>exact⟨a+1,xs,by simp,Nat.le_refl _,HI.out,fun h=>by subst h;rw[FK,List.take_append_drop]⟩
  case round =>
   obtain⟨m,ys,rfl,hm,hI,hx⟩:=hrel
   by_cases hlt:m<b
   ·have hmn:m<xs.length:=by have:=Hxl.out;omega
    have Hst:=hidL (fun h=>Fz hmn (hx h));have Hmn:=hidL hmn;clear hmn;clear hx;go_wp2_with fail;go_loopw [9] (fun j wi=>∃ q:Nat,∃ zs,j=O q∧a≤q∧q≤m∧qj J base T g cap n w wi zs∧(a=0→Mid SK.lt xs m q zs)) (fun j _=>(intOf j).toNat)
    case atStart=>exact⟨m,ys,rfl,by omega,Nat.le_refl _,hI,Hst.out⟩
    case round =>
     clear hI Hst ys;obtain⟨q,zs,rfl,haq,hqm,hI,hM⟩:=hrel
     by_cases hj:a<q
     ·obtain⟨p,hp⟩:∃ p,q=p+1:=⟨q-1,by omega⟩;have hz1:q<zs.length:=by have:=hI.1;omega
      have hz0:p<zs.length:=by omega
      have HMs:Hid (a=0→SK.lt zs[q] zs[p]=true→Mid SK.lt xs m p ((zs.set q zs[p]).set p zs[q])):=fun h hl=>by subst hp;exact mid_step Hmn.out (hM h) hz1 hl
      have HMe:Hid (a=0→SK.lt zs[q] zs[p]=false→zs=bL SK.lt (xs.take (m+1))++xs.drop (m+1)):=fun h hl=>by subst hp;exact mid_end Hmn.out (hM h) (fun _ _=>by simpa using hl)
      obtain⟨A,B,hA,hB,HCC,hQA,hQB,HSW⟩:=hI.two hJ (q:=q) (p:=p) (by have:=hI.1;omega) (by have:=hI.1;omega);rw[hA,hB] at HMs HMe;have ej:decide ((q:Int) > a)=true:=by simp;omega
      have ej2:decide ((a:Int)<(q:Int))=true:=by simp;omega
      have e5:IntKind.i64.wrap ((q:Int)-1)=(p:Int):=by rw[show (q:Int)-1=(p:Int) by omega];exact IntWalk.i64_in _ (by omega)
      have hq1n:(q:Int)<n:=by omega
      have hq0n:(p:Int)<n:=by omega
      have Hpq:=hidL (show p<q∧a≤p∧p≤m by omega);clear hM hp hA hB hz1 hz0;have HI1:=hidL hI;clear hI;go_upto_region 4 with fail;have hw:=au (Below.refl wr.heap.size wr);have hS:=HCC.out _ hw;refine oG hS (fun _=>true) (by kernel_rfl) ?_;generalize wr.drew=Wd at hw hS ⊢;apply ppP 0
      try simp only[pu]
      apply ppP 1
      try simp only[pu]
      apply ppP 2
      try simp only[pu]
      apply ppP 3
      try simp only[pu]
      apply ppP 4
      try simp only[pu]
      apply ppP 5
      try simp only[pu]
      apply ppP 6
      try simp only[pu]
      apply ppP 7
      try simp only[pu]
      refine tkM A 8 hS (fun _ h=>h.1) ?_
      try simp only[pu]
      apply ppP 9
      try simp only[pu]
      apply ppP 10
      try simp only[pu]
      apply ppP 11
      try simp only[pu]
      apply ppP 12
      try simp only[pu]
      refine tkM B 13 hS (fun _ h=>h.2) ?_
      try simp only[pu]
      obtain⟨cv,hcv⟩:=exE (SK.cf A B);have hcm:=SK.cmp A B Wd hQA.out hQB.out;rw[←hcv] at hcm;have Hcv:=hidL hcv;have Hcm:=hidL hcm;clear hcv hcm;refine ang 14 (fun K hK=>?_);go_simp;refine Hcm.out.mono ?_;clear Hcm;rintro e w5 ⟨rfl,hb5⟩;replace hw:=aa hw hb5 hw.size;replace hS:=HCC.out _ hw;refine hK.out _ _ (fun _ _=>hS) ?_
      try simp only[pu]
      apply ppP 15
      try simp only[pu]
      apply ppP 16
      try simp only[pu]
      refine anf ?_ _;have hsg:SK.lt A B=decide (cv<0):=by rw[Hcv.out];exact SK.sgn _ _
      clear hb5 ej ej2 hS
      by_cases hc:cv<0
      ·have ec:decide (cv<0)=true:=by simpa using hc
       rw[ec] at hsg;have HM2:=hidL (fun h=>HMs.out h hsg);clear hc hsg HMs HMe Hcv;rw[ec];clear ec;obtain⟨V,hV⟩:=exE w5;rw[←hV] at hw ⊢;clear hV;go_upto_region 6 with fail;have hw:=au hw;have hS:=HCC.out _ hw;obtain⟨ht1,ht2,hfin⟩:=HSW.out _ hw;have Hfin:=hidL hfin;clear hfin;refine oG hS (fun i=>i != 15&&i != 17) (by kernel_rfl) ?_;generalize V.drew=Wd at hw hS ht1 ht2 Hfin ⊢;apply ppP 0
       try simp only[pu]
       apply ppP 1
       try simp only[pu]
       apply ppP 2
       try simp only[pu]
       apply ppP 3
       try simp only[pu]
       apply ppP 4
       try simp only[pu]
       apply ppP 5
       try simp only[pu]
       apply ppP 6
       try simp only[pu]
       apply ppP 7
       try simp only[pu]
       apply ppP 8
       try simp only[pu]
       refine tkM B 9 hS (fun _ h=>h.2) ?_
       try simp only[pu]
       apply ppP 10
       try simp only[pu]
       apply ppP 11
       try simp only[pu]
       apply ppP 12
       try simp only[pu]
       refine tkM A 13 hS (fun _ h=>h.1) ?_
       try simp only[pu]
       apply ppP 14
       try simp only[pu]
       refine ang 15 (fun K hK=>?_);refine stM B rfl rfl ht1 rfl rfl ?_;refine hK.out _ _ nay ?_
       try simp only[pu]
       apply ppP 16
       try simp only[pu]
       refine ang 17 (fun K hK=>?_);refine stM A rfl rfl ht2 rfl rfl ?_;refine hK.out _ _ nay ?_
       try simp only[pu]
       refine anf ?_ _;clear ht1 ht2 hS hw;generalize setCells (setCells Wd _ _ _) _ _ _=Wf at Hfin ⊢;go_wp2;go_roundw
       case rel=>exact⟨p,_,rfl,Hpq.out.2.1,Hpq.out.2.2,Hfin.out,HM2.out⟩
       case measure=>go_light;have:=Hpq.out;simp[intOf];omega
      ·have ec:decide (cv<0)=false:=by simpa using hc
       rw[ec] at hsg;have HM2:=hidL (fun h=>HMe.out h hsg);have hI5:=HI1.out.below hw;clear hc hsg HMs HMe hw;rw[ec];clear ec;have e7:IntKind.i64.wrap ((m:Int)+1)=(m:Int)+1:=IntWalk.i64_in _ (by go_light;omega);go_wp2;go_roundw
       case rel=>exact⟨m+1,zs,by simp,by go_light;omega,hI5,HM2.out⟩
       case measure=>go_light;simp[intOf];omega
     ·have ej:decide ((q:Int) > a)=false:=by simp;omega
      have ej2:decide ((a:Int)<(q:Int))=false:=by simp;omega
      have HM2:=hidL (fun h=>mid_end Hmn.out (hM h) (fun h0 _=>absurd h0 (by omega)));have e7:IntKind.i64.wrap ((m:Int)+1)=(m:Int)+1:=IntWalk.i64_in _ (by omega);have hI5:=hI.below (au (Below.refl wr.heap.size wr));clear hM hI;have hS:True:=trivial;go_upto_region 4 with fail;refine aJ (fun _=>True) (fun _=>true) (by kernel_rfl) ?_;generalize wr.drew=Wd at hI5 ⊢;apply ppP 0
      try simp only[pu]
      apply ppP 1
      try simp only[pu]
      apply ppP 2
      try simp only[pu]
      apply ppP 3
      try simp only[pu]
      apply skP 4 hS
      try simp only[pu]
      apply skP 5 hS
      try simp only[pu]
      apply skP 6 hS
      try simp only[pu]
      apply skP 7 hS
      try simp only[pu]
      apply skP 8 hS
      try simp only[pu]
      apply skP 9 hS
      try simp only[pu]
      apply skP 10 hS
      try simp only[pu]
      apply skP 11 hS
      try simp only[pu]
      apply skP 12 hS
      try simp only[pu]
      apply skP 13 hS
      try simp only[pu]
      apply skP 14 hS
      try simp only[pu]
      apply skP 15 hS
      try simp only[pu]
      apply ppP 16
      try simp only[pu]
      refine anf ?_ _;clear ej ej2;go_wp2;go_roundw
      case rel=>exact⟨m+1,zs,by simp,by go_light;omega,hI5,HM2.out⟩
      case measure=>go_light;simp[intOf];omega
   ·have Hx:=hidL hx;clear hx;have HI5:=hidL hI;clear hI;have Hmb:=hidL (show b≤m by omega);go_wp2_with fail;refine bodyPost_end (results_none rfl _ _ _) rfl ?_;refine⟨rfl,ys,HI5.out,fun h=>?_⟩;have:=Hx.out h.1;rw[List.take_of_length_le (by have:=Hmb.out;have:=Hxl.out;omega),List.drop_eq_nil_of_le (by have:=Hmb.out;have:=Hxl.out;omega),List.append_nil] at this;exact this
def ajR {α:Type}[SK α](J:List α→Prop):Prop:=∀ (base:Nat) (T:Nat→Prop) (g cap n:Nat) (w W:World) (xs:List α),qj J base T g cap n w W xs→n≤1000000→∀ a b c:Nat,a+c≤n→b+c≤n →
 Calls prog (SK.fw α) #[.slice (some ⟨g,0,none⟩) n cap,O a,O b,O c,.func (.func (SK.fc α)) #[] #[]] W (ajv J base T g cap n w)
theorem alS:adO ajR:=by
 refine⟨?_,?_,?_⟩
 all_goals as_aux_lemma =>
  intro J hJ base T g cap n w W xs hI hn a b c ha hb;have HI:=hidL hI;clear hI;dsimp only[SK.fi,SK.fw,SK.fr,SK.fs,SK.ft,SK.fc]
  first
   | (go_enter func211,ntmps211)
   | (go_enter func209,ntmps209)
   | (go_enter func186,ntmps186)
  go_wp2_with fail;go_loopw [10] (fun i wr=>∃ k:Nat,∃ zs,i=O k∧qj J base T g cap n w wr zs) (fun i _=>c-(intOf i).toNat)
  case atStart=>exact⟨0,xs,rfl,HI.out⟩
  case round =>
   obtain⟨k,zs,rfl,hI⟩:=hrel
   by_cases hlt:k<c
   ·obtain⟨q,hq⟩:=exE (a+k);obtain⟨p,hp⟩:=exE (b+k);obtain⟨A,B,hA,hB,HCC,hQA,hQB,HSW⟩:=hI.two hJ (q:=q) (p:=p) (by have:=hI.1;omega) (by have:=hI.1;omega);have e1:IntKind.i64.wrap ((a:Int)+k)=(q:Int):=by rw[show (a:Int)+k=(q:Int) by omega];exact IntWalk.i64_in _ (by omega)
    have e2:IntKind.i64.wrap ((b:Int)+k)=(p:Int):=by rw[show (b:Int)+k=(p:Int) by omega];exact IntWalk.i64_in _ (by omega)
    have hq1n:(q:Int)<n:=by omega
    have hq0n:(p:Int)<n:=by omega
    have e7:IntKind.i64.wrap ((k:Int)+1)=(k:Int)+1:=IntWalk.i64_in _ (by omega);clear hq hp hA hB hI;go_upto_region 3 with fail;have hw:=au (Below.refl wr.heap.size wr);have hS:=HCC.out _ hw;obtain⟨ht1,ht2,hfin⟩:=HSW.out _ hw;have Hfin:=hidL hfin;clear hfin;refine oG hS (fun i=>i != 21&&i != 23) (by kernel_rfl) ?_;generalize wr.drew=Wd at hw hS ht1 ht2 Hfin ⊢;apply ppP 0
    try simp only[pu]
    apply ppP 1
    try simp only[pu]
    apply ppP 2
    try simp only[pu]
    apply ppP 3
    try simp only[pu]
    apply ppP 4
    try simp only[pu]
    apply ppP 5
    try simp only[pu]
    apply ppP 6
    try simp only[pu]
    apply ppP 7
    try simp only[pu]
    apply ppP 8
    try simp only[pu]
    apply ppP 9
    try simp only[pu]
    apply ppP 10
    try simp only[pu]
    apply ppP 11
    try simp only[pu]
    apply ppP 12
    try simp only[pu]
    refine tkM B 13 hS (fun _ h=>h.2) ?_
    try simp only[pu]
    apply ppP 14
    try simp only[pu]
    apply ppP 15
    try simp only[pu]
    apply ppP 16
    try simp only[pu]
    apply ppP 17
    try simp only[pu]
    apply ppP 18
    try simp only[pu]
    refine tkM A 19 hS (fun _ h=>h.1) ?_
    try simp only[pu]
    apply ppP 20
    try simp only[pu]
    refine ang 21 (fun K hK=>?_);refine stM B rfl rfl ht1 rfl rfl ?_;refine hK.out _ _ nay ?_
    try simp only[pu]
    apply ppP 22
    try simp only[pu]
    refine ang 23 (fun K hK=>?_);refine stM A rfl rfl ht2 rfl rfl ?_;refine hK.out _ _ nay ?_
    try simp only[pu]
    refine anf ?_ _;clear ht1 ht2 hS hw;generalize setCells (setCells Wd _ _ _) _ _ _=Wf at Hfin ⊢;go_wp2;go_roundw
    case rel=>exact⟨k+1,_,by simp,Hfin.out⟩
    case measure=>go_light;simp[intOf];omega
   ·have HI5:=hidL hI;clear hI;go_wp2_with fail;refine bodyPost_end (results_none rfl _ _ _) rfl ?_;exact⟨rfl,zs,HI5.out⟩
def ajx {α:Type}[SK α](J:List α→Prop):Prop:=∀ (base:Nat) (T:Nat→Prop) (g cap n:Nat) (w W:World) (xs:List α),qj J base T g cap n w W xs→n≤1000000→∀ a m b:Nat,a<m→m<b→b≤n →
 Calls prog (SK.fr α) #[.slice (some ⟨g,0,none⟩) n cap,O a,O m,O b,.func (.func (SK.fc α)) #[] #[]] W (ajv J base T g cap n w)
theorem amx:adO ajx:=by
 refine⟨?_,?_,?_⟩
 all_goals as_aux_lemma =>
  intro J hJ base T g cap n w W xs hI hn a m b ham hmb hb;have HI:=hidL hI;clear hI;have hsw:ajR J:=by first | exact alS.1 J hJ | exact alS.2.1 J hJ | exact alS.2.2 J hJ
  dsimp only[ajR,SK.fw,SK.fc] at hsw;have Hsw:=hidL hsw;clear hsw;obtain⟨i0,hi0⟩:∃ i,m=a+i:=⟨m-a,by omega⟩;obtain⟨j0,hj0⟩:∃ j,b=m+j:=⟨b-m,by omega⟩;have e1:IntKind.i64.wrap ((m:Int)-a)=(i0:Int):=by rw[show (m:Int)-a=(i0:Int) by omega];exact IntWalk.i64_in _ (by omega)
  have e2:IntKind.i64.wrap ((b:Int)-m)=(j0:Int):=by rw[show (b:Int)-m=(j0:Int) by omega];exact IntWalk.i64_in _ (by omega)
  have Hb0:=hidL (show 0<i0∧i0≤m∧0<j0∧m+j0≤n by omega);clear hi0 hj0 ham hmb hb;dsimp only[SK.fi,SK.fw,SK.fr,SK.fs,SK.ft,SK.fc]
  first
   | (go_enter func185,ntmps185)
   | (go_enter func179,ntmps179)
   | (go_enter func150,ntmps150)
  go_wp2_with fail;clear e1 e2;go_loopw [10,11] (fun c10 c11 wr=>∃ i j:Nat,∃ zs,c10=O i∧c11=O j∧0<i∧i≤m∧0<j∧m+j≤n∧qj J base T g cap n w wr zs) (fun c10 c11 _=>(intOf c10).toNat+(intOf c11).toNat)
  case atStart=>exact⟨i0,j0,xs,rfl,rfl,Hb0.out.1,Hb0.out.2.1,Hb0.out.2.2.1,Hb0.out.2.2.2,HI.out⟩
  case round =>
   obtain⟨i,j,zs,rfl,rfl,hi0,him,hj0,hjn,hI⟩:=hrel;obtain⟨mi,hmi⟩:∃ x,m=x+i:=⟨m-i,by omega⟩;have hd1:IntKind.i64.wrap ((m:Int)-i)=(mi:Int):=by rw[show (m:Int)-i=(mi:Int) by omega];exact IntWalk.i64_in _ (by omega)
   by_cases hne:i=j
   ·subst hne;have hc:=hidL (Hsw.out _ _ _ _ _ w wr zs hI hn mi m i (by omega) (by omega));clear hI hmi;go_wp2_with fail;refine hc.out.mono ?_;rintro e w5 ⟨rfl,ys,hy⟩;have Hy:=hidL hy;clear hy;clear hc;go_wp2_with fail;refine bodyPost_end (results_none rfl _ _ _) rfl ?_;exact⟨rfl,ys,Hy.out⟩
   ·have hne':((i:Int) != (j:Int))=true:=by simp;omega
    have hne2:¬ (i:Int)=j:=by omega
    by_cases hij:j<i
    ·have hc:=hidL (Hsw.out _ _ _ _ _ w wr zs hI hn mi m j (by omega) (by omega));obtain⟨i2,hi2⟩:∃ x,i=x+j:=⟨i-j,by omega⟩;have hd2:IntKind.i64.wrap ((i:Int)-j)=(i2:Int):=by rw[show (i:Int)-j=(i2:Int) by omega];exact IntWalk.i64_in _ (by omega)
     have hij':(j:Int)<i:=by omega
     have Hk:=hidL (show 0<i2∧i2≤m∧i=i2+j by omega);clear hmi hI hi2;go_wp2_with fail;refine hc.out.mono ?_;rintro e w5 ⟨rfl,ys,hy⟩;have Hy:=hidL hy;clear hy;clear hc;go_wp2;go_roundw
     case rel=>exact⟨i2,j,ys,rfl,rfl,Hk.out.1,Hk.out.2.1,hj0,hjn,Hy.out⟩
     case measure=>go_light;have:=Hk.out;simp[intOf];omega
    ·obtain⟨mj,hmj⟩:∃ x,m+j=x+i:=⟨m+j-i,by omega⟩;have hc:=hidL (Hsw.out _ _ _ _ _ w wr zs hI hn mi mj i (by omega) (by omega));have hd3:IntKind.i64.wrap ((m:Int)+j)=(m:Int)+j:=IntWalk.i64_in _ (by omega);have hd4:IntKind.i64.wrap ((m:Int)+j-i)=(mj:Int):=by rw[show (m:Int)+j-i=(mj:Int) by omega];exact IntWalk.i64_in _ (by omega)
     obtain⟨j2,hj2⟩:∃ x,j=x+i:=⟨j-i,by omega⟩;have hd2:IntKind.i64.wrap ((j:Int)-i)=(j2:Int):=by rw[show (j:Int)-i=(j2:Int) by omega];exact IntWalk.i64_in _ (by omega)
     have hij':¬ (j:Int)<i:=by omega
     have Hk:=hidL (show 0<j2∧m+j2≤n∧j=j2+i by omega);clear hmi hmj hI hj2;go_wp2_with fail;refine hc.out.mono ?_;rintro e w5 ⟨rfl,ys,hy⟩;have Hy:=hidL hy;clear hy;clear hc;go_wp2;go_roundw
     case rel=>exact⟨i,j2,ys,rfl,rfl,hi0,him,Hk.out.1,Hk.out.2.1,Hy.out⟩
     case measure=>go_light;have:=Hk.out;simp[intOf];omega
end Go.Proofs.YtknnhpkjgnkcdaaGreatDoor
