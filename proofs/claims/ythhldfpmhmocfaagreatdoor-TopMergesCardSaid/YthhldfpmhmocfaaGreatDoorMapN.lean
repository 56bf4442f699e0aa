/- Maps of truths by numbers, known by what they answer. -/
import Derived.Test.YthhldfpmhmocfaaGreatDoorRepoa
set_option linter.all false
namespace Go.Proofs.YthhldfpmhmocfaaGreatDoor
open Go.Proofs.Tryz
open Go.RowKit Go.Maps
section
variable {α:Type}{k t:TypeId}{enc:α→Value}
def qZ (k:TypeId)(enc:α→Value)(w:World)(b n:Nat)(h:α→Bool):Prop :=
 ∃ D:DataW Nat,w.ownsMap prog k (plainElem prog 4) b n D∧∀ x l,keyOf prog k (enc x)=some l→D.atKey l (.lit (.bool false))=.lit (.bool (h x))
theorem qZ.made (w:World):qZ k enc (w.alloc (.map #[] 0)) w.heap.size 0 (fun _=>false) :=
 ⟨.map [],World.ownsMap_made _ _ _ _,fun _ _ _=>rfl⟩
variable {w w':World}{b n:Nat}{h:α→Bool}
theorem qZ.lt (H:qZ k enc w b n h):b<w.heap.size:=by obtain⟨D,h1,_⟩:=H;exact h1.lt
theorem qZ.alloc (H:qZ k enc w b n h)(o:Obj):qZ k enc (w.alloc o) b n h:=by obtain⟨D,h1,h2⟩:=H;exact⟨D,h1.alloc o,h2⟩
theorem qZ.below (H:qZ k enc w b n h)(hb:Below w.heap.size w w'):qZ k enc w' b n h:=by obtain⟨D,h1,h2⟩:=H;exact⟨D,h1.kept (aK hb none) (by simp),h2⟩
theorem qZ.mono (H:qZ k enc w b n h){n':Nat}(hn:n≤n'):qZ k enc w b n' h:=by obtain⟨D,h1,h2⟩:=H;exact⟨D,h1.mono hn,h2⟩
theorem qZ.kept {row:Option Nat}(H:qZ k enc w b n h)(hg:w.grownBy w' row)(hne:some b≠row):qZ k enc w' b n h:=by obtain⟨D,h1,h2⟩:=H;exact⟨D,h1.kept hg hne,h2⟩
theorem qZ.congr {g:α→Bool}(H:qZ k enc w b n h)(e:∀ x,h x=g x):qZ k enc w b n g:=by obtain⟨D,h1,h2⟩:=H;exact⟨D,h1,fun x l hl=>by rw[←e];exact h2 x l hl⟩
theorem GJ {e:TypeId}{P:Program}(he:P.underlying e=some .bool){v:Value}{z:DataW Nat × List MemPlace}(h:plainElem P e v=some z):∃ a,v=.bool a∧z=(.lit (.bool a),[]):=by
 unfold plainElem at h;rw[he] at h;cases v <;> simp at h
 ·exact⟨_,rfl,h.symm⟩
theorem qZ.look (H:qZ k enc w b n h)(K:Keyed prog k)(ht:prog.underlying t=some (.map k 4)){x:α}(hx:∃ l,keyOf prog k (enc x)=some l) :
  (Instr.lookup t (.map (some b)) (enc x) false).run prog w=.ok (.bool (h x)) w:=by
 obtain⟨D,h1,h2⟩:=H;obtain⟨l,hl⟩:=hx;obtain⟨v,ps,hrun,hv⟩:=h1.lookup K ht (z:=.bool false) (by kernel_rfl) (plainElem_bool underlying4 false) hl;obtain⟨c,rfl,hc⟩:=GJ underlying4 hv;rw[Prod.mk.injEq] at hc;have:=h2 x l hl;rw[hc.1] at this;simp only[DataW.lit.injEq,Lit.bool.injEq] at this;rw[hrun,this]
theorem qZ.put [DecidableEq α](H:qZ k enc w b n h)(K:Keyed prog k)(ht:prog.underlying t=some (.map k 4))(hinj:∀ x y,enc x=enc y→x=y){x:α}(hx:∃ l,keyOf prog k (enc x)=some l)(hn:n≤1048576) :
  ∃ w',(Instr.mapUpdate t (.map (some b)) (enc x) (.bool true)).run prog w=.ok () w'∧qZ k enc w' b (n+1) (fun y=>decide (y=x)||h y)∧w.grownBy w' (some b):=by
 obtain⟨D,h1,h2⟩:=H;obtain⟨l,hl⟩:=hx;obtain⟨w',hr,h3,hg⟩:=h1.update K ht (Nat.lt_of_le_of_lt hn (by unfold maxLen;decide)) hl (plainElem_bool underlying4 true);refine⟨w',hr,⟨_,h3,fun y m hm=>?_⟩,hg⟩;have hM:IsMap D:=h1.isMap
 by_cases hy:y=x
 ·subst hy;have:m=l:=by rw[hl] at hm;exact(Option.some.inj hm).symm
  subst this;simp only[decide_true,Bool.true_or];exact atKey_put_same hM (K.key hl) _ _
 ·have hne:m≠l:=fun e=>hy (hinj _ _ (K.inj hm (e ▸ hl)))
  simp only[hy,decide_false,Bool.false_or];rw[atKey_put_other hne];exact h2 y m hm
end
def keyI (n:Int):Value:=.int .i64 n
theorem keyI_inj:∀ x y:Int,keyI x=keyI y→x=y:=fun _ _ h=>by simpa[keyI] using h
theorem key_int {n:Int}(h0:0≤n)(h1:n≤1000000):∃ l,keyOf prog 3 (keyI n)=some l:=by
 have e1:IntKind.i64.min = -9223372036854775808:=by decide
 have e2:IntKind.i64.max=9223372036854775807:=by decide
 exact⟨_,keyOf_int_mk underlying3 (by simp[Lit.wf,e1,e2];omega)⟩
theorem law_int:Keyed prog 3:=int_keyed underlying3
end Go.Proofs.YthhldfpmhmocfaaGreatDoor
