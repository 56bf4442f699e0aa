/- Walks and plain laws. -/
import Derived.Test.YtknnhpkjgnkcdaaGreatDoorBase
import Derived.Deep.DrawnRows
import Derived.Test.YtknnhpkjgnkcdaaGreatDoorRefShelf
set_option linter.all false
set_option maxRecDepth 100000
set_option maxHeartbeats 8000000
namespace Go.Proofs.YtknnhpkjgnkcdaaGreatDoor
section
open Go.Proofs.Tryz
open Go.RowKit
theorem FK {α:Type}{lt:α→α→Bool}(l:List α):bL lt (l.take 1)=l.take 1:=by
 cases l with
 | nil=>rfl
 | cons x l=>rfl
section
variable {α:Type}{base e sz g cap n:Nat}{R:Rel α}{T:Nat→Prop}{w:World}{xs:List α}
end
def jw (x:dC):Prop:=-1099511627776≤x.n∧x.n≤1099511627776∧x.name.size≤4000
def gN (x:ay):Prop:=-1099511627776≤x.id∧x.id≤1099511627776∧x.name.size≤4000∧x.type.size≤4000
theorem aex (x y:dC):nO x y=decide (x.n-y.n<0):=by
 unfold nO
 by_cases h:x.n<y.n
 ·rw[decide_eq_true h,decide_eq_true (by omega)]
 ·rw[decide_eq_false h,decide_eq_false (by omega)]
theorem abt (x y:ay):kK x y=decide (x.id-y.id<0):=by
 unfold kK
 by_cases h:x.id<y.id
 ·rw[decide_eq_true h,decide_eq_true (by omega)]
 ·rw[decide_eq_false h,decide_eq_false (by omega)]
theorem uX (S S':Nat→Prop)(x y:dC)(cs cs':List Value)(w:World)(hr:aO S w cs x)(hr':aO S' w cs' y)(hx:jw x)(hy:jw y):Calls prog 70 #[.agg cs.toArray,.agg cs'.toArray] w (Ret w (O (x.n-y.n))):=by
 have e1:cs=dD x:=hr;have e2:cs'=dD y:=hr';subst e1 e2;clear hr hr';obtain⟨xn,xi⟩:=x;obtain⟨yn,yi⟩:=y;unfold jw at hx hy;dsimp only[dD] at hx hy ⊢;obtain⟨x1,x2,x3⟩:=bY w [.string xn,O xi] [.string yn,O yi] 57 57;have e1:IntKind.i64.wrap (xi-yi)=xi-yi:=IntWalk.i64_in _ (by omega);clear hx hy;go_enter func70,ntmps70;go_wp2;go_ret;exact⟨rfl,x3⟩
theorem sS (S S':Nat→Prop)(x y:ay)(cs cs':List Value)(w:World)(hr:aH S w cs x)(hr':aH S' w cs' y)(hx:gN x)(hy:gN y):Calls prog 67 #[.agg cs.toArray,.agg cs'.toArray] w (Ret w (O (x.id-y.id))):=by
 have e1:cs=aI x:=hr;have e2:cs'=aI y:=hr';subst e1 e2;clear hr hr';obtain⟨x0,x1,x2,x3,x4⟩:=x;obtain⟨y0,y1,y2,y3,y4⟩:=y;unfold gN at hx hy;dsimp only[aI] at hx hy ⊢;obtain⟨z1,z2,z3⟩:=bY w (FF x0 x1 x2 x3 x4) (FF y0 y1 y2 y3 y4) 55 55;have e1:IntKind.i64.wrap (x0-y0)=x0-y0:=IntWalk.i64_in _ (by omega);clear hx hy;go_enter func67,ntmps67;go_wp2;go_ret;exact⟨rfl,z3⟩
def Dh (a b:ByteArray):Int:=Lib.compareBytes a.data.toList b.data.toList
theorem Mc:∀ (a b:List UInt8),Op.bytesLess a b=decide (Lib.compareBytes a b<0)
 | [],[]=>by simp[Op.bytesLess,Lib.compareBytes]
 | [],_::_=>by simp[Op.bytesLess,Lib.compareBytes]
 | _::_,[]=>by simp[Op.bytesLess,Lib.compareBytes]
 | a::x,b::y=>by
  rw[Op.bytesLess,Lib.compareBytes,Mc x y]
  by_cases h1:a<b
  ·simp[h1]
  ·by_cases h2:b<a
   ·have h3:a≠b:=fun e=>by subst e;exact h1 h2
    simp[h1,h2,h3]
   ·have h3:a=b:=UInt8.le_antisymm (UInt8.not_lt.1 h2) (UInt8.not_lt.1 h1);subst h3;simp[h1]
theorem akp (x y:ax):kH x y=decide (Dh x.name y.name<0):=by
 have e:ltS x.name y.name=(Op.bytesLess x.name.data.toList y.name.data.toList=true):=by unfold ltS;rw[ByteArray.toList_eq,ByteArray.toList_eq]
 unfold kH Dh;rw[←Mc]
 by_cases h:ltS x.name y.name
 ·rw[decide_eq_true h];rw[e] at h;exact h.symm
 ·rw[decide_eq_false h];rw[e] at h;simpa using h
end
section
open Go.Proofs.Tryz
open Go.RowKit
structure fF where
 name:ByteArray
 enum:Bool
 F:Option Addr
 f:Nat
 p:Nat
 G:Option Addr
 g:Nat
 q:Nat
 I:Option Addr
 i:Nat
 r:Nat
def pG (x:fF):List Value:=[.string x.name,.bool x.enum,.slice x.F x.f x.p,.slice x.G x.g x.q,.slice x.I x.i x.r]
def bg:Rel fF:=dS pG
theorem bg.fair:Fair bg:=dS.fair _
def uf (a b:fF):Bool:=decide (ltS a.name b.name)
def ajI (_:fF):Prop:=True
theorem swap_perm {α:Type}{ys L:List α}{i j:Nat}(hi:i<ys.length)(hj:j<ys.length)(h:ys.Perm L):((ys.set i ys[j]).set j ys[i]).Perm L:=(List.set_set_perm hi hj).trans h
theorem aib (x y:fF):uf x y=decide (Dh x.name y.name<0):=akp ⟨x.name,false,[],[],[]⟩ ⟨y.name,false,[],[],[]⟩
theorem wX (S S':Nat→Prop)(x y:fF)(cs cs':List Value)(w:World)(hr:bg S w cs x)(hr':bg S' w cs' y)(_:ajI x)(_:ajI y):Calls prog 34 #[.agg cs.toArray,.agg cs'.toArray] w (Ret w (O (Dh x.name y.name))):=by
 have e1:cs=pG x:=hr;have e2:cs'=pG y:=hr';subst e1 e2;clear hr hr';obtain⟨xn,xe,xF,xf,xp,xG,xg,xq,xI,xi,xr⟩:=x;obtain⟨yn,ye,yF,yf,yp,yG,yg,yq,yI,yi,yr⟩:=y;dsimp only[pG];obtain⟨z1,z2,z3⟩:=bY w [.string xn,.bool xe,.slice xF xf xp,.slice xG xg xq,.slice xI xi xr] [.string yn,.bool ye,.slice yF yf yp,.slice yG yg yq,.slice yI yi yr] 53 53;go_enter func34,ntmps34;go_wp2_with fail;refine(Tryz.strings_Compare _ _ _).mono ?_;rintro e w1 ⟨rfl,rfl⟩;go_wp2;go_ret;exact⟨rfl,z3⟩
end
end Go.Proofs.YtknnhpkjgnkcdaaGreatDoor
