/- The walks of the statements' own comparisons at what is alike: sameNumbers, sameReply. -/
import Derived.Test.YthhldfpmhmocfaaGreatDoorTops
set_option linter.all false
set_option maxRecDepth 100000
set_option maxHeartbeats 8000000
namespace Go.Proofs.YthhldfpmhmocfaaGreatDoor
open Go.Proofs.Tryz
open Go.RowKit
theorem RSl.front {α:Type}{sz by_ n c:Nat}{R:Rel α}{S:Nat→Prop}{w:World}{A:Option Addr}{xs ys:List α}(h:RSl sz by_ R S w [.slice A n c] (xs++ys)):RSl sz by_ R S w [.slice A xs.length c] xs:=by
 obtain⟨A',cap,h1,h2,h3,h4⟩:=h;simp only[List.cons.injEq,Value.slice.injEq,and_true] at h1;obtain⟨rfl,-,rfl⟩:=h1;rw[List.length_append] at h2 h3;refine⟨A,c,rfl,by omega,Nat.le_trans (Nat.mul_le_mul_right _ (Nat.le_add_right _ _)) h3,fun k x hx=>h4 k x ?_⟩;rw[List.getElem?_append_left (List.getElem?_eq_some_iff.1 hx).1];exact hx
theorem Tq (p:aX)(W:World):(binOp .neq 92 (.agg #[.string p.type,.int .i64 p.id,.int .i64 p.why]) (.agg #[.string p.type,.int .i64 p.id,.int .i64 p.why])).run prog W=.ok (.bool false) W:=by
 have:=wE p p W;simpa[dh] using this
theorem aki (S S':Nat→Prop)(cs cs':List Value)(r:kR)(w:World)(h:jd S w cs r)(h':jd S' w cs' r):Calls prog 27 #[.agg cs.toArray,.agg cs'.toArray] w (Ret w (.bool true)):=by
 obtain⟨f1,rfl,hl⟩:=h;obtain⟨f2,rfl,hl'⟩:=h';obtain⟨F1,k1,rfl,-,-⟩:=hl.form;obtain⟨F2,k2,rfl,-,-⟩:=hl'.form;obtain⟨rc,rn,rt,l⟩:=r;dsimp only at hl hl' ⊢;obtain⟨x1,x2,x3⟩:=bY w [.int .i64 rc,.int .i64 rn,.string rt,.slice F1 l.length k1] [.int .i64 rc,.int .i64 rn,.string rt,.slice F2 l.length k2] 32 32;have HL:=hidL ((RSl.fair aU.fair).below hl x3);have HL':=hidL ((RSl.fair aU.fair).below hl' x3);have hlb:l.length≤9223372036854775807:=by obtain⟨_,_,_,_,hb⟩:=hl.form;omega
 clear hl hl';go_enter func27,ntmps27;go_upto_region 1 with fail;have hx1:=x1.lt;have hx2:w.heap.size+1<_:=x2.lt;have hs3:=x3.size;generalize World.alloc (World.alloc w _) _=W2 at x1 x2 x3 hx1 hx2 hs3 HL HL' ⊢;have X1:=hidL x1;have X2:=hidL x2;have a0:=x1.cell 0;have a1:=x1.cell 1;have a2:=x1.cell 2;have a3:=x1.cell 3;have b0:=x2.cell 0;have b1:=x2.cell 1;have b2:=x2.cell 2;have b3:=x2.cell 3;simp only[List.getElem?_cons_zero,List.getElem?_cons_succ] at a0 a1 a2 a3 b0 b1 b2 b3;clear x1 x2;go_wp2_with fail;clear a0 a1 a2 a3 b0 b1 b2 b3;go_loopw [37] (fun i wr=>∃ k:Nat,i=.int .i64 k∧k≤l.length∧Below W2.heap.size W2 wr) (fun i _=>l.length-(intOf i).toNat)
 case atStart=>exact⟨0,rfl,by omega,Below.refl _ _⟩
 case round =>
  obtain⟨k,rfl,hk,hb⟩:=hrel
  by_cases hlt:k<l.length
  ·obtain⟨g,o,es,rfl,hS,hg,hes,hr,hc⟩:=((RSl.fair aU.fair).below HL.out hb).at_ hlt;obtain⟨g',o',es',rfl,hS',hg',hes',hr',hc'⟩:=((RSl.fair aU.fair).below HL'.out hb).at_ hlt;obtain⟨p,hpe⟩:=exE (l[k]);rw[←hpe] at hr hr';clear hpe;obtain rfl:es=dh p:=hr;obtain rfl:es'=dh p:=hr';have a3:=(X1.out.below hb X1.out.lt).cell 3;have b3:=(X2.out.below hb X2.out.lt).cell 3;simp only[List.getElem?_cons_zero,List.getElem?_cons_succ] at a3 b3;have c0:wr.cell? ⟨g,o+k*3,none⟩=some (.string p.type):=hc.at_ 0 rfl;have d0:wr.cell? ⟨g',o'+k*3,none⟩=some (.string p.type):=hc'.at_ 0 rfl;have c1:wr.cell? ⟨g,o+k*3+1,none⟩=some (.int .i64 p.id):=hc.at_ 1 rfl;have d1:wr.cell? ⟨g',o'+k*3+1,none⟩=some (.int .i64 p.id):=hc'.at_ 1 rfl;have c2:wr.cell? ⟨g,o+k*3+2,none⟩=some (.int .i64 p.why):=hc.at_ 2 rfl;have d2:wr.cell? ⟨g',o'+k*3+2,none⟩=some (.int .i64 p.why):=hc'.at_ 2 rfl;have hgd:=Cb;have hneq:=fun W=>Tq p W
   have hlk:(k:Int)<l.length:=by omega
   clear hc hc' hes hes' hg hg' hS hS';go_wp2_with fail
   go_quiet (fail)
   go_wp2_with fail;go_roundw
   case rel=>exact⟨k+1,by go_num,by omega,below_drewN hb _⟩
   case measure=>simp[intOf];omega
  ·have hlk:¬ (k:Int)<l.length:=by omega
   have hb9:=aa x3 hb hs3;go_wp2_with fail;go_ret;exact⟨rfl,hb9⟩
end Go.Proofs.YthhldfpmhmocfaaGreatDoor
