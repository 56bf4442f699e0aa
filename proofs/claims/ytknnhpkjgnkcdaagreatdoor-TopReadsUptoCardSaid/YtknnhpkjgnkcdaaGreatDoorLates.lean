/- Walks and plain laws. -/
import Derived.Deep.RegionHeld3
import Derived.Test.YtknnhpkjgnkcdaaGreatDoorBase
set_option linter.all false
namespace Go.Proofs.YtknnhpkjgnkcdaaGreatDoor
section
open Go Go.RowKit
section
variable {P:Program}{md:Region.Mode}{ops:Array Oper}{Q:Exit→Act→World→Prop}{lt:Nat}{S:World→Prop}
def yx (md:Region.Mode)(ops:Array Oper)(listed:Array Bool)(j:Nat):Prop:=∀ o,ops[j]? = some o→∀ e∈o.after,Region.binds md e=true→listed.getD e.on false=true
def qd (md:Region.Mode)(ops:Array Oper)(listed:Array Bool):Bool:=(List.range ops.size).all fun j => !listed.getD j false||((ops[j]?).map fun o=>o.after.all fun e => !Region.binds md e||listed.getD e.on false).getD true
theorem uU {listed:Array Bool}:qd md ops listed=true↔∀ j,listed.getD j false=true→yx md ops listed j:=by
 unfold qd yx;rw[List.all_eq_true];constructor
 ·intro h j hj o ho e he hb;have hlt:j<ops.size:=(Array.getElem?_eq_some_iff.1 ho).1;have:=h j (List.mem_range.2 hlt);rw[hj,ho] at this;simp only[Bool.not_true,Bool.false_or,Option.map_some,Option.getD_some,Array.all_eq_true_iff_forall_mem] at this;have:=this e he;rw[hb] at this;simpa using this
 ·intro h j _;cases hj:listed.getD j false with
  | false=>simp
  | true =>
   cases ho:ops[j]? with
   | none=>simp
   | some o =>
    simp only[Bool.not_true,Bool.false_or,Option.map_some,Option.getD_some,Array.all_eq_true_iff_forall_mem];intro e he;cases hb:Region.binds md e with
    | false=>simp
    | true=>simpa using h j hj o ho e he hb
def waits (md:Region.Mode)(ops:Array Oper):Nat→Nat→Nat→Bool
 | 0,_,_=>false
 | f+1,j,i=>((ops[j]?).map fun o=>o.after.any fun e=>Region.binds md e&&(e.on==i||waits md ops f e.on i)).getD false
theorem Cs {listed:Array Bool}(hc:∀ j,listed.getD j false=true→yx md ops listed j):∀ (f j i:Nat),waits md ops f j i=true→yx md ops listed j→listed.getD i false=true
 | 0,_,_,h,_=>by cases h
 | f+1,j,i,h,hr=>by
  rw[waits] at h;cases ho:ops[j]? with
  | none=>rw[ho] at h;cases h
  | some o =>
   rw[ho] at h;simp only[Option.map_some,Option.getD_some] at h;obtain⟨e,he,hb⟩:=Array.any_eq_true'.1 h;simp only[Bool.and_eq_true,Bool.or_eq_true,beq_iff_eq] at hb;have hl:=hr o ho e he hb.1;rcases hb.2 with h1 | h1
   ·rw[←h1];exact hl
   ·exact Cs hc f e.on i h1 (hc e.on hl)
def Zh (md:Region.Mode)(ops:Array Oper)(lt i:Nat):Bool:=(List.range ops.size).all fun j=>decide (j<lt)||waits md ops 9 j i
def rM (P:Program)(md:Region.Mode)(ops:Array Oper)(Q:Exit→Act→World→Prop)(lt:Nat)(S:World→Prop):Nat→Array Bool→Act→World→Prop
 | 0,listed,a,w=>Region.ready md ops listed=[]∧Q .normal a w
 | fuel+1,listed,a,w=>(Region.ready md ops listed=[]→Q .normal a w) ∧
  ∀ i∈Region.ready md ops listed,wpOp P ops Q i (fun a' w'=>(i<lt→S w')∧rM P md ops Q lt S fuel (listed.setIfInBounds i true) a' w') a w
theorem MM:∀ (fuel:Nat) (listed:Array Bool) (a:Act) (w:World),rM P md ops Q lt S fuel listed a w→wpAny P md ops Q fuel listed a w
 | 0,_,_,_,h=>h
 | fuel+1,_,_,_,h=>⟨h.1,fun i hi=>wpOp_mono (fun a' w' h'=>MM fuel _ a' w' h'.2) (h.2 i hi)⟩
theorem En {listed:Array Bool}(hc:∀ j,listed.getD j false=true→yx md ops listed j){k:Nat}(hk:k∈Region.ready md ops listed):∀ j,(listed.setIfInBounds k true).getD j false=true→yx md ops (listed.setIfInBounds k true) j:=by
 intro j hj o ho e he hb;refine getD_set_true ?_;obtain⟨_,ok,hok,hall⟩:=mem_ready.1 hk
 by_cases hjk:k=j
 ·subst hjk;rw[hok] at ho;cases ho;exact hall e he hb
 ·rw[getD_set_ne false hjk] at hj;exact hc j hj o ho e he hb
theorem RQ {i:Nat}{oi:Oper}{v:Value}(hi:ops[i]? = some oi)(hsel:Region.noSelect ops=true)(hil:i<lt)(hw:Zh md ops lt i=true)
  (hQ:∀ c a w,Q (.panic c) (a.put oi.dst v) w→Q (.panic c) a w):∀ (fuel:Nat) (listed:Array Bool) (a:Act) (w:World),
   (∀ j,listed.getD j false=true→yx md ops listed j) →
   (∀ j oj,ops[j]? = some oj→j≠i→listed.getD j true=false→(∀ e∈oj.after,Region.binds md e=true→e.on≠i)→oi.apart ops oj=true) →
   i∈Region.ready md ops listed→YieldsIf P ops S oi v a→S w→rM P md ops Q lt S fuel (listed.setIfInBounds i true) (a.put oi.dst v) w→rM P md ops Q lt S (fuel+1) listed a w:=by
 intro fuel
 induction fuel with
 | zero =>
  intro listed a w _ _ hr hy hS H;refine⟨fun h=>(by rw[h] at hr;cases hr),fun j hj=>?_⟩
  by_cases hji:j=i
  ·subst hji;exact hy.wpOp hi hS ⟨fun _=>hS,H⟩
  ·have:=ready_mono hj hji;rw[H.1] at this;cases this
 | succ fuel ih =>
  intro listed a w hc hfree hr hy hS H;refine⟨fun h=>(by rw[h] at hr;cases hr),fun j hj=>?_⟩
  by_cases hji:j=i
  ·subst hji;exact hy.wpOp hi hS ⟨fun _=>hS,H⟩
  ·have hstep:=H.2 j (ready_mono hj hji);obtain⟨hjun,oj,hoj,hall⟩:=mem_ready.1 hj;have hiun:=(mem_ready.1 hr).1;have hiun':¬ listed.getD i false=true:=by
    intro hl;rcases Nat.lt_or_ge i listed.size with h' | h'
    ·rw[Array.getD_eq_getD_getElem?,Array.getElem?_eq_getElem h'] at hl hiun;simp only[Option.getD_some] at hl hiun;rw[hl] at hiun;cases hiun
    ·rw[Array.getD_eq_getD_getElem?,Array.getElem?_eq_none h'] at hl;cases hl
   have hready:yx md ops listed j:=fun o ho e he hb=>by
    rw[hoj] at ho;cases ho;exact hall e he hb
   have hnot:∀ e∈oj.after,Region.binds md e=true→e.on≠i:=by
    rintro e he hb rfl;exact hiun' (hall e he hb)
   have hjl:j<lt:=by
    by_cases hjl:j<lt
    ·exact hjl
    ·have:=List.all_eq_true.1 hw j (List.mem_range.2 (Array.getElem?_eq_some_iff.1 hoj).1);simp only[hjl,decide_false,Bool.false_or] at this;exact absurd (Cs hc 9 j i this hready) hiun'
   have hput:=wpOp_putIf hoj (hfree j oj hoj hji hjun hnot) (fun cs b=>Region.noSelect_spec hsel i oi cs b hi) (fun cs b=>Region.noSelect_spec hsel j oj cs b hoj) hQ hy hstep;have hfree':∀ k ok,ops[k]? = some ok→k≠i→(listed.setIfInBounds j true).getD k true=false→(∀ e∈ok.after,Region.binds md e=true→e.on≠i)→oi.apart ops ok=true:=by
    intro k ok hk hki hun hno;refine hfree k ok hk hki ?_ hno
    by_cases hjk:j=k
    ·subst hjk;exact hjun
    ·rw[getD_set_ne true hjk] at hun;exact hun
   refine wpOp_mono (fun a' w' hh=>?_) hput;obtain⟨hy',hs1,hrest⟩:=hh;refine⟨hs1,ih (listed.setIfInBounds j true) a' w' (En hc hj) hfree' (ready_mono hr (Ne.symm hji)) hy' (hs1 hjl) ?_⟩;rw[Array.setIfInBounds_comm _ _ hji];exact hrest
theorem agc {i:Nat}{oi:Oper}{v:Value}{fuel:Nat}{listed:Array Bool}{a:Act}{w:World}(hi:ops[i]? = some oi)
  (hb:(Region.noSelect ops&&Region.free md ops listed i&&(Region.ready md ops listed).contains i&&qd md ops listed&&decide (i<lt)&&Zh md ops lt i)=true)
  (hQ:∀ c a w,Q (.panic c) (a.put oi.dst v) w→Q (.panic c) a w) (hy:Region.wanted oi (yielded ops a.tmps)=true∧∀ w,S w→(execOp a.eval oi).run P w=.ok (.value v) w) (hS:S w)
  (h:rM P md ops Q lt S fuel (listed.setIfInBounds i true) (a.put oi.dst v) w):rM P md ops Q lt S (fuel+1) listed a w:=by
 simp only[Bool.and_eq_true,decide_eq_true_eq] at hb;obtain⟨⟨⟨⟨⟨h1,h2⟩,h3⟩,h4⟩,h5⟩,h6⟩:=hb;exact RQ hi h1 h5 h6 hQ fuel listed a w (uU.1 h4) (Region.free_spec hi h2) (by simpa using h3) (.inl hy) hS h
theorem agb {i:Nat}{oi:Oper}{fuel:Nat}{listed:Array Bool}{a:Act}{w:World}(hi:ops[i]? = some oi)
  (hb:(Region.noSelect ops&&Region.free md ops listed i&&(Region.ready md ops listed).contains i&&qd md ops listed&&decide (i<lt)&&Zh md ops lt i)=true)
  (hQ:∀ c a w,Q (.panic c) (a.put oi.dst undef) w→Q (.panic c) a w) (hy:Region.wanted oi (yielded ops a.tmps)=false) (hS:S w)
  (h:rM P md ops Q lt S fuel (listed.setIfInBounds i true) (a.put oi.dst undef) w):rM P md ops Q lt S (fuel+1) listed a w:=by
 simp only[Bool.and_eq_true,decide_eq_true_eq] at hb;obtain⟨⟨⟨⟨⟨h1,h2⟩,h3⟩,h4⟩,h5⟩,h6⟩:=hb;exact RQ hi h1 h5 h6 hQ fuel listed a w (uU.1 h4) (Region.free_spec hi h2) (by simpa using h3) (.inr ⟨hy,rfl⟩) hS h
theorem ahV {i:Nat}{o:Oper}{fuel:Nat}{listed:Array Bool}{a:Act}{w:World}(hi:ops[i]? = some o)(hr:Region.ready md ops listed=[i])
  (h:∀ K:Act→World→Prop,Shut (∀ a' w',(i<lt→S w')→rM P md ops Q lt S fuel (listed.setIfInBounds i true) a' w'→K a' w')→if Region.wanted o (yielded ops a.tmps)=true then Oper.wp P o a w K Q else K (a.put o.dst undef) w) :
  rM P md ops Q lt S (fuel+1) listed a w:=by
 refine⟨fun h0=>(by rw[hr] at h0;cases h0),?_⟩;rw[hr];intro j hj;have:j=i:=by simpa using hj
 subst this;exact wpOp_step hi (fun K' hK=>h K' (fun a' w' hS hW=>hK a' w' ⟨hS,hW⟩))
theorem jc {i j:Nat}{oi oj:Oper}{fuel:Nat}{listed:Array Bool}{a:Act}{w:World}(hi:ops[i]? = some oi)(hj:ops[j]? = some oj)(hr:Region.ready md ops listed=[i,j])
  (h1:∀ K:Act→World→Prop,Shut (∀ a' w',(i<lt→S w')→rM P md ops Q lt S fuel (listed.setIfInBounds i true) a' w'→K a' w')→if Region.wanted oi (yielded ops a.tmps)=true then Oper.wp P oi a w K Q else K (a.put oi.dst undef) w)
  (h2:∀ K:Act→World→Prop,Shut (∀ a' w',(j<lt→S w')→rM P md ops Q lt S fuel (listed.setIfInBounds j true) a' w'→K a' w')→if Region.wanted oj (yielded ops a.tmps)=true then Oper.wp P oj a w K Q else K (a.put oj.dst undef) w) :
  rM P md ops Q lt S (fuel+1) listed a w:=by
 refine⟨fun h0=>(by rw[hr] at h0;cases h0),?_⟩;rw[hr];intro q hq;rcases List.mem_cons.1 hq with rfl | hq
 ·exact wpOp_step hi (fun K' hK=>h1 K' (fun a' w' hS hW=>hK a' w' ⟨hS,hW⟩))
 ·have:q=j:=by simpa using hq
  subst this;exact wpOp_step hj (fun K' hK=>h2 K' (fun a' w' hS hW=>hK a' w' ⟨hS,hW⟩))
theorem afn {listed:Array Bool}{a:Act}{w:World}(hr:Region.ready md ops listed=[])(h:Q .normal a w):∀ fuel,rM P md ops Q lt S fuel listed a w
 | 0=>⟨hr,h⟩
 | _+1=>⟨fun _=>h,by rw[hr];simp⟩
theorem aY (S:World→Prop)(lt:Nat){id:Nat}{a:Act}{w:World}(hm:P.follows .mixedOrders=true)(h:rM P .any ops Q lt S ops.size (Array.replicate ops.size false) a w.drew):(Code.region id ops true).wp P Q a w :=
 wp_region_any hm (MM _ _ _ _ h)
theorem pu:(∀ (a:Act) (d:Tmp) (v:Value),a.put (some d) v = { a with tmps:=a.tmps.setIfInBounds d v })∧(∀ (a:Act) (v:Value),a.put none v=a) ∧
  (∀ (α:Type) (xs:List α) (i:Nat) (h:i<xs.toArray.size),xs.toArray[i]=xs[i]'(by simpa using h))∧(∀ (α:Type) (x:α) (xs:List α) (h:0<(x::xs).length),(x::xs)[0]=x) ∧
  (∀ (α:Type) (x:α) (xs:List α) (i:Nat) (h:i+1<(x::xs).length),(x::xs)[i+1]=xs[i]'(by simpa using h))∧(∀ (α:Type) (xs:List α) (i:Nat) (x:α),xs.toArray.setIfInBounds i x=(xs.set i x).toArray) ∧
  (∀ (α:Type) (x y:α) (xs:List α),(x::xs).set 0 y=y::xs)∧(∀ (α:Type) (x y:α) (xs:List α) (n:Nat),(x::xs).set (n+1) y=x::xs.set n y) :=
 ⟨fun _ _ _=>rfl,fun _ _=>rfl,fun _ _ _ _=>by simp,fun _ _ _ _=>rfl,fun _ _ _ _ _=>rfl,fun _ _ _ _=>by simp,fun _ _ _ _=>rfl,fun _ _ _ _ _=>rfl⟩
theorem tkL (i:Nat){oi:Oper}{v:Value}{fuel:Nat}{listed:Array Bool}{a:Act}{w:World}(hS:S w)(h:rM P md ops Q lt S fuel (listed.setIfInBounds i true) (a.put oi.dst v) w)(hi:ops[i]? = some oi:=by exact rfl)
  (hb:(Region.noSelect ops&&Region.free md ops listed i&&(Region.ready md ops listed).contains i&&qd md ops listed&&decide (i<lt)&&Zh md ops lt i)=true:=by kernel_rfl)
  (hQ:∀ c a w,Q (.panic c) (a.put oi.dst v) w→Q (.panic c) a w:=by exact fun _ _ _ h=>h) (hw:Region.wanted oi (yielded ops a.tmps)=true:=by kernel_rfl)
  (hy:∀ w,S w→(execOp a.eval oi).run P w=.ok (.value v) w:=by (intro w hSw;(try dsimp only at hSw);go_simp;first | done | with_reducible rfl)):rM P md ops Q lt S (fuel+1) listed a w:=agc hi hb hQ ⟨hw,hy⟩ hS h
theorem skL (i:Nat){oi:Oper}{fuel:Nat}{listed:Array Bool}{a:Act}{w:World}(hS:S w)(h:rM P md ops Q lt S fuel (listed.setIfInBounds i true) (a.put oi.dst undef) w)(hi:ops[i]? = some oi:=by exact rfl)
  (hb:(Region.noSelect ops&&Region.free md ops listed i&&(Region.ready md ops listed).contains i&&qd md ops listed&&decide (i<lt)&&Zh md ops lt i)=true:=by kernel_rfl)
  (hQ:∀ c a w,Q (.panic c) (a.put oi.dst undef) w→Q (.panic c) a w:=by exact fun _ _ _ h=>h) (hy:Region.wanted oi (yielded ops a.tmps)=false:=by kernel_rfl):rM P md ops Q lt S (fuel+1) listed a w:=agb hi hb hQ hy hS h
theorem anq (i:Nat){o:Oper}{fuel:Nat}{listed:Array Bool}{a:Act}{w:World}
  (h:∀ K:Act→World→Prop,Shut (∀ a' w',(i<lt→S w')→rM P md ops Q lt S fuel (listed.setIfInBounds i true) a' w'→K a' w')→if Region.wanted o (yielded ops a.tmps)=true then Oper.wp P o a w K Q else K (a.put o.dst undef) w)
  (hi:ops[i]? = some o:=by exact rfl) (hr:Region.ready md ops listed=[i]:=by kernel_rfl):rM P md ops Q lt S (fuel+1) listed a w:=ahV hi hr h
theorem ani {listed:Array Bool}{a:Act}{w:World}(h:Q .normal a w)(fuel:Nat)(hr:Region.ready md ops listed=[]:=by kernel_rfl):rM P md ops Q lt S fuel listed a w:=afn hr h fuel
theorem nay {p q:Prop}(h:¬ p:=by decide):p→q:=fun x=>absurd x h
end
end
section
open Go Go.RowKit
section
variable {P:Program}{md:Region.Mode}{ops:Array Oper}{Q:Exit→Act→World→Prop}{lb:Nat→Bool}{S:World→Prop}
def LY (md:Region.Mode)(ops:Array Oper)(lb:Nat→Bool)(i:Nat):Bool:=(List.range ops.size).all fun j=>lb j||waits md ops 9 j i
def fK (P:Program)(md:Region.Mode)(ops:Array Oper)(Q:Exit→Act→World→Prop)(lb:Nat→Bool)(S:World→Prop):Nat→Array Bool→Act→World→Prop
 | 0,listed,a,w=>Region.ready md ops listed=[]∧Q .normal a w
 | fuel+1,listed,a,w=>(Region.ready md ops listed=[]→Q .normal a w) ∧
  ∀ i∈Region.ready md ops listed,wpOp P ops Q i (fun a' w'=>(lb i=true→S w→S w')∧fK P md ops Q lb S fuel (listed.setIfInBounds i true) a' w') a w
theorem JU:∀ (fuel:Nat) (listed:Array Bool) (a:Act) (w:World),fK P md ops Q lb S fuel listed a w→wpAny P md ops Q fuel listed a w
 | 0,_,_,_,h=>h
 | fuel+1,_,_,_,h=>⟨h.1,fun i hi=>wpOp_mono (fun a' w' h'=>JU fuel _ a' w' h'.2) (h.2 i hi)⟩
theorem ME {i:Nat}{oi:Oper}{v:Value}(hi:ops[i]? = some oi)(hsel:Region.noSelect ops=true)(hil:lb i=true)(hw:LY md ops lb i=true)
  (hQ:∀ c a w,Q (.panic c) (a.put oi.dst v) w→Q (.panic c) a w):∀ (fuel:Nat) (listed:Array Bool) (a:Act) (w:World),
   (∀ j,listed.getD j false=true→yx md ops listed j) →
   (∀ j oj,ops[j]? = some oj→j≠i→listed.getD j true=false→(∀ e∈oj.after,Region.binds md e=true→e.on≠i)→oi.apart ops oj=true) →
   i∈Region.ready md ops listed→YieldsIf P ops S oi v a→S w→fK P md ops Q lb S fuel (listed.setIfInBounds i true) (a.put oi.dst v) w→fK P md ops Q lb S (fuel+1) listed a w:=by
 intro fuel
 induction fuel with
 | zero =>
  intro listed a w _ _ hr hy hS H;refine⟨fun h=>(by rw[h] at hr;cases hr),fun j hj=>?_⟩
  by_cases hji:j=i
  ·subst hji;exact hy.wpOp hi hS ⟨fun _ _=>hS,H⟩
  ·have:=ready_mono hj hji;rw[H.1] at this;cases this
 | succ fuel ih =>
  intro listed a w hc hfree hr hy hS H;refine⟨fun h=>(by rw[h] at hr;cases hr),fun j hj=>?_⟩
  by_cases hji:j=i
  ·subst hji;exact hy.wpOp hi hS ⟨fun _ _=>hS,H⟩
  ·have hstep:=H.2 j (ready_mono hj hji);obtain⟨hjun,oj,hoj,hall⟩:=mem_ready.1 hj;have hiun:=(mem_ready.1 hr).1;have hiun':¬ listed.getD i false=true:=by
    intro hl;rcases Nat.lt_or_ge i listed.size with h' | h'
    ·rw[Array.getD_eq_getD_getElem?,Array.getElem?_eq_getElem h'] at hl hiun;simp only[Option.getD_some] at hl hiun;rw[hl] at hiun;cases hiun
    ·rw[Array.getD_eq_getD_getElem?,Array.getElem?_eq_none h'] at hl;cases hl
   have hready:yx md ops listed j:=fun o ho e he hb=>by
    rw[hoj] at ho;cases ho;exact hall e he hb
   have hnot:∀ e∈oj.after,Region.binds md e=true→e.on≠i:=by
    rintro e he hb rfl;exact hiun' (hall e he hb)
   have hjl:lb j=true:=by
    cases hjl:lb j with
    | true=>rfl
    | false =>
     have:=List.all_eq_true.1 hw j (List.mem_range.2 (Array.getElem?_eq_some_iff.1 hoj).1);simp only[hjl,Bool.false_or] at this;exact absurd (Cs hc 9 j i this hready) hiun'
   have hput:=wpOp_putIf hoj (hfree j oj hoj hji hjun hnot) (fun cs b=>Region.noSelect_spec hsel i oi cs b hi) (fun cs b=>Region.noSelect_spec hsel j oj cs b hoj) hQ hy hstep;have hfree':∀ k ok,ops[k]? = some ok→k≠i→(listed.setIfInBounds j true).getD k true=false→(∀ e∈ok.after,Region.binds md e=true→e.on≠i)→oi.apart ops ok=true:=by
    intro k ok hk hki hun hno;refine hfree k ok hk hki ?_ hno
    by_cases hjk:j=k
    ·subst hjk;exact hjun
    ·rw[getD_set_ne true hjk] at hun;exact hun
   refine wpOp_mono (fun a' w' hh=>?_) hput;obtain⟨hy',hs1,hrest⟩:=hh;refine⟨hs1,ih (listed.setIfInBounds j true) a' w' (En hc hj) hfree' (ready_mono hr (Ne.symm hji)) hy' (hs1 hjl hS) ?_⟩;rw[Array.setIfInBounds_comm _ _ hji];exact hrest
theorem RF {i:Nat}{oi:Oper}{v:Value}{fuel:Nat}{listed:Array Bool}{a:Act}{w:World}(hi:ops[i]? = some oi)
  (hb:(Region.noSelect ops&&Region.free md ops listed i&&(Region.ready md ops listed).contains i&&qd md ops listed&&lb i&&LY md ops lb i)=true)
  (hQ:∀ c a w,Q (.panic c) (a.put oi.dst v) w→Q (.panic c) a w) (hy:Region.wanted oi (yielded ops a.tmps)=true∧∀ w,S w→(execOp a.eval oi).run P w=.ok (.value v) w) (hS:S w)
  (h:fK P md ops Q lb S fuel (listed.setIfInBounds i true) (a.put oi.dst v) w):fK P md ops Q lb S (fuel+1) listed a w:=by
 simp only[Bool.and_eq_true] at hb;obtain⟨⟨⟨⟨⟨h1,h2⟩,h3⟩,h4⟩,h5⟩,h6⟩:=hb;exact ME hi h1 h5 h6 hQ fuel listed a w (uU.1 h4) (Region.free_spec hi h2) (by simpa using h3) (.inl hy) hS h
theorem aec {i:Nat}{oi:Oper}{fuel:Nat}{listed:Array Bool}{a:Act}{w:World}(hi:ops[i]? = some oi)
  (hb:(Region.noSelect ops&&Region.free md ops listed i&&(Region.ready md ops listed).contains i&&qd md ops listed&&lb i&&LY md ops lb i)=true)
  (hQ:∀ c a w,Q (.panic c) (a.put oi.dst undef) w→Q (.panic c) a w) (hy:Region.wanted oi (yielded ops a.tmps)=false) (hS:S w)
  (h:fK P md ops Q lb S fuel (listed.setIfInBounds i true) (a.put oi.dst undef) w):fK P md ops Q lb S (fuel+1) listed a w:=by
 simp only[Bool.and_eq_true] at hb;obtain⟨⟨⟨⟨⟨h1,h2⟩,h3⟩,h4⟩,h5⟩,h6⟩:=hb;exact ME hi h1 h5 h6 hQ fuel listed a w (uU.1 h4) (Region.free_spec hi h2) (by simpa using h3) (.inr ⟨hy,rfl⟩) hS h
theorem adZ {i:Nat}{oi:Oper}{v:Value}(hi:ops[i]? = some oi)(hsel:Region.noSelect ops=true)
  (hQ:∀ c a w,Q (.panic c) (a.put oi.dst v) w→Q (.panic c) a w):∀ (fuel:Nat) (listed:Array Bool) (a:Act) (w:World),
   (∀ j,listed.getD j false=true→yx md ops listed j) →
   (∀ j oj,ops[j]? = some oj→j≠i→listed.getD j true=false→(∀ e∈oj.after,Region.binds md e=true→e.on≠i)→oi.apart ops oj=true) →
   i∈Region.ready md ops listed→YieldsIf P ops (fun _=>True) oi v a→fK P md ops Q lb S fuel (listed.setIfInBounds i true) (a.put oi.dst v) w→fK P md ops Q lb S (fuel+1) listed a w:=by
 intro fuel
 induction fuel with
 | zero =>
  intro listed a w _ _ hr hy H;refine⟨fun h=>(by rw[h] at hr;cases hr),fun j hj=>?_⟩
  by_cases hji:j=i
  ·subst hji;exact hy.wpOp hi trivial ⟨fun _ h=>h,H⟩
  ·have:=ready_mono hj hji;rw[H.1] at this;cases this
 | succ fuel ih =>
  intro listed a w hc hfree hr hy H;refine⟨fun h=>(by rw[h] at hr;cases hr),fun j hj=>?_⟩
  by_cases hji:j=i
  ·subst hji;exact hy.wpOp hi trivial ⟨fun _ h=>h,H⟩
  ·have hstep:=H.2 j (ready_mono hj hji);obtain⟨hjun,oj,hoj,hall⟩:=mem_ready.1 hj;have hiun:=(mem_ready.1 hr).1;have hiun':¬ listed.getD i false=true:=by
    intro hl;rcases Nat.lt_or_ge i listed.size with h' | h'
    ·rw[Array.getD_eq_getD_getElem?,Array.getElem?_eq_getElem h'] at hl hiun;simp only[Option.getD_some] at hl hiun;rw[hl] at hiun;cases hiun
    ·rw[Array.getD_eq_getD_getElem?,Array.getElem?_eq_none h'] at hl;cases hl
   have hnot:∀ e∈oj.after,Region.binds md e=true→e.on≠i:=by
    rintro e he hb rfl;exact hiun' (hall e he hb)
   have hput:=wpOp_putIf hoj (hfree j oj hoj hji hjun hnot) (fun cs b=>Region.noSelect_spec hsel i oi cs b hi) (fun cs b=>Region.noSelect_spec hsel j oj cs b hoj) hQ hy hstep;have hfree':∀ k ok,ops[k]? = some ok→k≠i→(listed.setIfInBounds j true).getD k true=false→(∀ e∈ok.after,Region.binds md e=true→e.on≠i)→oi.apart ops ok=true:=by
    intro k ok hk hki hun hno;refine hfree k ok hk hki ?_ hno
    by_cases hjk:j=k
    ·subst hjk;exact hjun
    ·rw[getD_set_ne true hjk] at hun;exact hun
   refine wpOp_mono (fun a' w' hh=>?_) hput;obtain⟨hy',hs1,hrest⟩:=hh;refine⟨hs1,ih (listed.setIfInBounds j true) a' w' (En hc hj) hfree' (ready_mono hr (Ne.symm hji)) hy' ?_⟩;rw[Array.setIfInBounds_comm _ _ hji];exact hrest
theorem rO {i:Nat}{oi:Oper}{v:Value}{fuel:Nat}{listed:Array Bool}{a:Act}{w:World}(hi:ops[i]? = some oi)
  (hb:(Region.noSelect ops&&Region.free md ops listed i&&(Region.ready md ops listed).contains i&&qd md ops listed)=true)
  (hQ:∀ c a w,Q (.panic c) (a.put oi.dst v) w→Q (.panic c) a w) (hy:Region.wanted oi (yielded ops a.tmps)=true∧∀ w,True→(execOp a.eval oi).run P w=.ok (.value v) w)
  (h:fK P md ops Q lb S fuel (listed.setIfInBounds i true) (a.put oi.dst v) w):fK P md ops Q lb S (fuel+1) listed a w:=by
 simp only[Bool.and_eq_true] at hb;obtain⟨⟨⟨h1,h2⟩,h3⟩,h4⟩:=hb;exact adZ hi h1 hQ fuel listed a w (uU.1 h4) (Region.free_spec hi h2) (by simpa using h3) (.inl hy) h
theorem pO {i:Nat}{o:Oper}{fuel:Nat}{listed:Array Bool}{a:Act}{w:World}(hi:ops[i]? = some o)(hr:Region.ready md ops listed=[i])
  (h:∀ K:Act→World→Prop,Shut (∀ a' w',(lb i=true→S w→S w')→fK P md ops Q lb S fuel (listed.setIfInBounds i true) a' w'→K a' w')→if Region.wanted o (yielded ops a.tmps)=true then Oper.wp P o a w K Q else K (a.put o.dst undef) w) :
  fK P md ops Q lb S (fuel+1) listed a w:=by
 refine⟨fun h0=>(by rw[hr] at h0;cases h0),?_⟩;rw[hr];intro j hj;have:j=i:=by simpa using hj
 subst this;exact wpOp_step hi (fun K' hK=>h K' (fun a' w' hS hW=>hK a' w' ⟨hS,hW⟩))
theorem iI {i j:Nat}{oi oj:Oper}{fuel:Nat}{listed:Array Bool}{a:Act}{w:World}(hi:ops[i]? = some oi)(hj:ops[j]? = some oj)(hr:Region.ready md ops listed=[i,j])
  (h1:∀ K:Act→World→Prop,Shut (∀ a' w',(lb i=true→S w→S w')→fK P md ops Q lb S fuel (listed.setIfInBounds i true) a' w'→K a' w')→if Region.wanted oi (yielded ops a.tmps)=true then Oper.wp P oi a w K Q else K (a.put oi.dst undef) w)
  (h2:∀ K:Act→World→Prop,Shut (∀ a' w',(lb j=true→S w→S w')→fK P md ops Q lb S fuel (listed.setIfInBounds j true) a' w'→K a' w')→if Region.wanted oj (yielded ops a.tmps)=true then Oper.wp P oj a w K Q else K (a.put oj.dst undef) w) :
  fK P md ops Q lb S (fuel+1) listed a w:=by
 refine⟨fun h0=>(by rw[hr] at h0;cases h0),?_⟩;rw[hr];intro q hq;rcases List.mem_cons.1 hq with rfl | hq
 ·exact wpOp_step hi (fun K' hK=>h1 K' (fun a' w' hS hW=>hK a' w' ⟨hS,hW⟩))
 ·have:q=j:=by simpa using hq
  subst this;exact wpOp_step hj (fun K' hK=>h2 K' (fun a' w' hS hW=>hK a' w' ⟨hS,hW⟩))
theorem RI {listed:Array Bool}{a:Act}{w:World}(hr:Region.ready md ops listed=[])(h:Q .normal a w):∀ fuel,fK P md ops Q lb S fuel listed a w
 | 0=>⟨hr,h⟩
 | _+1=>⟨fun _=>h,by rw[hr];simp⟩
theorem aJ (S:World→Prop)(lb:Nat→Bool){id:Nat}{a:Act}{w:World}(hm:P.follows .mixedOrders=true)(h:fK P .any ops Q lb S ops.size (Array.replicate ops.size false) a w.drew):(Code.region id ops true).wp P Q a w :=
 wp_region_any hm (JU _ _ _ _ h)
theorem tkP (i:Nat){oi:Oper}{v:Value}{fuel:Nat}{listed:Array Bool}{a:Act}{w:World}(hS:S w)(h:fK P md ops Q lb S fuel (listed.setIfInBounds i true) (a.put oi.dst v) w)(hi:ops[i]? = some oi:=by exact rfl)
  (hb:(Region.noSelect ops&&Region.free md ops listed i&&(Region.ready md ops listed).contains i&&qd md ops listed&&lb i&&LY md ops lb i)=true:=by kernel_rfl)
  (hQ:∀ c a w,Q (.panic c) (a.put oi.dst v) w→Q (.panic c) a w:=by exact fun _ _ _ h=>h) (hw:Region.wanted oi (yielded ops a.tmps)=true:=by kernel_rfl)
  (hy:∀ w,S w→(execOp a.eval oi).run P w=.ok (.value v) w:=by (intro w hSw;(try dsimp only at hSw);go_simp;first | done | with_reducible rfl)):fK P md ops Q lb S (fuel+1) listed a w:=RF hi hb hQ ⟨hw,hy⟩ hS h
theorem skP (i:Nat){oi:Oper}{fuel:Nat}{listed:Array Bool}{a:Act}{w:World}(hS:S w)(h:fK P md ops Q lb S fuel (listed.setIfInBounds i true) (a.put oi.dst undef) w)(hi:ops[i]? = some oi:=by exact rfl)
  (hb:(Region.noSelect ops&&Region.free md ops listed i&&(Region.ready md ops listed).contains i&&qd md ops listed&&lb i&&LY md ops lb i)=true:=by kernel_rfl)
  (hQ:∀ c a w,Q (.panic c) (a.put oi.dst undef) w→Q (.panic c) a w:=by exact fun _ _ _ h=>h) (hy:Region.wanted oi (yielded ops a.tmps)=false:=by kernel_rfl):fK P md ops Q lb S (fuel+1) listed a w:=aec hi hb hQ hy hS h
theorem ppP (i:Nat){oi:Oper}{v:Value}{fuel:Nat}{listed:Array Bool}{a:Act}{w:World}(h:fK P md ops Q lb S fuel (listed.setIfInBounds i true) (a.put oi.dst v) w)(hi:ops[i]? = some oi:=by exact rfl)
  (hb:(Region.noSelect ops&&Region.free md ops listed i&&(Region.ready md ops listed).contains i&&qd md ops listed)=true:=by kernel_rfl)
  (hQ:∀ c a w,Q (.panic c) (a.put oi.dst v) w→Q (.panic c) a w:=by exact fun _ _ _ h=>h) (hw:Region.wanted oi (yielded ops a.tmps)=true:=by kernel_rfl)
  (hy:∀ w,True→(execOp a.eval oi).run P w=.ok (.value v) w:=by (intro w _;go_simp;first | done | with_reducible rfl)):fK P md ops Q lb S (fuel+1) listed a w:=rO hi hb hQ ⟨hw,hy⟩ h
theorem ang (i:Nat){o:Oper}{fuel:Nat}{listed:Array Bool}{a:Act}{w:World}
  (h:∀ K:Act→World→Prop,Shut (∀ a' w',(lb i=true→S w→S w')→fK P md ops Q lb S fuel (listed.setIfInBounds i true) a' w'→K a' w')→if Region.wanted o (yielded ops a.tmps)=true then Oper.wp P o a w K Q else K (a.put o.dst undef) w)
  (hi:ops[i]? = some o:=by exact rfl) (hr:Region.ready md ops listed=[i]:=by kernel_rfl):fK P md ops Q lb S (fuel+1) listed a w:=pO hi hr h
theorem anf {listed:Array Bool}{a:Act}{w:World}(h:Q .normal a w)(fuel:Nat)(hr:Region.ready md ops listed=[]:=by kernel_rfl):fK P md ops Q lb S fuel listed a w:=RI hr h fuel
end
end
end Go.Proofs.YtknnhpkjgnkcdaaGreatDoor
