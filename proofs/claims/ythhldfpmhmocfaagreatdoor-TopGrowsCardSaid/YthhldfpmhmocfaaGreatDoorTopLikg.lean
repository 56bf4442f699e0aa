/- The walks of the statements' own comparisons at what is alike: sameNumbers, sameReply. -/
import Derived.Test.YthhldfpmhmocfaaGreatDoorTops
set_option linter.all false
set_option maxRecDepth 100000
set_option maxHeartbeats 8000000
namespace Go.Proofs.YthhldfpmhmocfaaGreatDoor
open Go.Proofs.Tryz
open Go.RowKit
theorem RSl.front {α:Type}{sz by_ n c:Nat}{R:Rel α}{S:Nat→Prop}{w:World}{A:Option Addr}{xs ys:List α}(h:RSl sz by_ R S w [.slice A n c] (xs++ys)):RSl sz by_ R S w [.slice A xs.length c] xs:=by
 obtain⟨A',cap,h1,h2,h3,h4⟩:=h;simp only[List.cons.injEq,Value.slice.injEq,and_true] at h1;obtain⟨rfl,-,rfl⟩:=h1;rw[List.length_append] at h2 h3;refine⟨A,c,rfl,by omega,Nat.le_trans (Nat.mul_le_mul_right _ (Nat.le_add_right _ _)) h3,fun k x hx=>h4 k x ?_⟩;rw[List.getElem?_append_left (List.getElem?_eq_some_iff.1 hx).1];exact hx
theorem ahu (S S':Nat→Prop)(v v':Value)(l:List Int)(w:World)(hl:RSl 1 8 aQ S w [v] l)(hl':RSl 1 8 aQ S' w [v'] l):Calls prog 24 #[v,v'] w (Ret w (.bool true)):=by
 obtain⟨A,cap,rfl,hlc,hlb⟩:=hl.form;obtain⟨A',cap',rfl,hlc',hlb'⟩:=hl'.form;have HL:=hidL hl;have HL':=hidL hl';clear hl hl';go_enter func24,ntmps24;go_wp2_with fail;go_loopw [13] (fun i wr=>∃ k:Nat,i=.int .i64 k∧k≤l.length∧Below w.heap.size w wr) (fun i _=>l.length-(intOf i).toNat)
 case atStart=>exact⟨0,rfl,by omega,Below.refl _ _⟩
 case round =>
  obtain⟨k,rfl,hk,hb⟩:=hrel
  by_cases hlt:k<l.length
  ·obtain⟨g,o,es,rfl,hS,hg,hes,hr,hc⟩:=((RSl.fair aQ.fair).below HL.out hb).at_ hlt;obtain⟨g',o',es',rfl,hS',hg',hes',hr',hc'⟩:=((RSl.fair aQ.fair).below HL'.out hb).at_ hlt;obtain⟨p,hpe⟩:=exE (l[k]);rw[←hpe] at hr hr';clear hpe;obtain rfl:es=[.int .i64 p]:=hr;obtain rfl:es'=[.int .i64 p]:=hr';have c0:wr.cell? ⟨g,o+k,none⟩=some (.int .i64 p):=by have:=hc.at_ 0 rfl;simpa using this
   have d0:wr.cell? ⟨g',o'+k,none⟩=some (.int .i64 p):=by have:=hc'.at_ 0 rfl;simpa using this
   clear hc hc' hes hes' hg hg' hS hS';go_wp2_with fail
   go_quiet (fail)
   go_wp2_with fail;go_roundw
   case rel=>exact⟨k+1,by go_num,by omega,below_drewN hb _⟩
   case measure=>simp[intOf];omega
  ·go_wp2_with fail;go_ret;exact⟨rfl,hb⟩
end Go.Proofs.YthhldfpmhmocfaaGreatDoor
