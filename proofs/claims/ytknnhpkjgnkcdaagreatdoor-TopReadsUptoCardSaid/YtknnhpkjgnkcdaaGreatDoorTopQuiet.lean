/- A play at which nobody says anything. -/
import Derived.Test.YtknnhpkjgnkcdaaGreatDoorTops
set_option linter.all false
set_option maxRecDepth 100000
set_option maxHeartbeats 8000000
namespace Go.Proofs.YtknnhpkjgnkcdaaGreatDoor
open Go.Proofs.Tryz
open Go.RowKit
theorem ams {B base:Nat}{w0:World}(hB:B≤w0.heap.size):aim 7 [] base w0 (fun _ _ _ _ S=>∀ y,S y→B≤y):=by
 intro s a g W W1 row row' S S' cs hok hkp hac hfit hbW hI hN hT hb1 hN1 hS' hr' hrep;have hI2:∀ y,S' y→B≤y:=fun y h=>(hS' y h).elim (hI y) (fun k=>by have:=hbW.size;omega)
 have HI2:=hidL hI2;obtain⟨vf,rfl,hrf⟩:=hrep;obtain⟨AF,kF,rfl,-,-⟩:=hrf.form;obtain⟨r,hr⟩:=exE (doF s a);rw[←hr] at hN1 ⊢;obtain⟨⟨rc,rn,rt,rf⟩,s2⟩:=r;obtain⟨ak,an,am,nm,ot,tx⟩:=a;dsimp only[fQ];obtain⟨x1,x2,x3⟩:=bY W1 [O ak,O an,O am,.string nm,.string ot,.string tx] [O rc,O rn,.string rt,.slice AF rf.length kF] 35 32;have hN2:=hidL (hN1.below x3);have hb2:=hidL (x3.mono hb1.size);clear hok hkp hac hfit hbW hI hI2 hN hT hb1 hN1 hS' hr' hrf hr x1 x2 x3;go_enter func7,ntmps7;go_wp2;go_ret;exact⟨rfl,hb2.out,hN2.out,HI2.out⟩
theorem anI (l:List mG):gY (aeF l)∧iL (aeF l)∧(aeF l).acts=(min l.length 40:Nat):=by
 unfold aeF;have h:=aet (l.take 40) (l.take 40).length (Nat.le_refl _) (by simp;omega);rw[List.take_length] at h;exact⟨h.1,h.2.1,by rw[h.2.2];simp[Nat.min_comm]⟩
theorem anB {S:Nat→Prop}{A:Option Addr}{cap:Nat}{l:List mG}{w:World}(hl:RSl 6 72 Tn S w [.slice A l.length cap] l)(hfit:∀ a∈l,IM a)(hG:qW w.heap.size w) :
  Calls prog 6 #[.slice A l.length cap,Value.func (.func 7) #[] #[]] w (fun e w2=>∃ g row S1,e=.returned (.tuple #[.pointer (some ⟨g,0,none⟩),.bool true])∧bS S1 row w.heap.size w2 g (aeF l)∧(∀ y,S1 y→w.heap.size≤y)∧Below w.heap.size w w2):=by
 refine(SI 7 [] (enters_of func7 (by kernel_rfl) rfl) A cap l S w w hl hfit (Below.refl _ _) hG (ams (Nat.le_refl _)) (fun _ _ _ _ _ _ h=>h.elim)).mono ?_;rintro e w2 ⟨g,row,S1,rfl,h1,h2,h3⟩;exact⟨g,row,S1,rfl,h1,h2,h3⟩
end Go.Proofs.YtknnhpkjgnkcdaaGreatDoor
