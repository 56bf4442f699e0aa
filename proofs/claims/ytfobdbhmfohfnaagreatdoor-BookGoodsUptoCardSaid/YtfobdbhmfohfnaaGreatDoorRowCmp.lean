/- The rows of types as they lie: flat cells; and their comparison. -/
import Derived.Test.YtfobdbhmfohfnaaGreatDoorSortCmp
set_option linter.all false
set_option maxRecDepth 100000
set_option maxHeartbeats 8000000
namespace Go.Proofs.YtfobdbhmfohfnaaGreatDoor
open Go.RowKit
structure TypeC where
 name : ByteArray
 enum : Bool
 F : Option Addr
 f : Nat
 p : Nat
 G : Option Addr
 g : Nat
 q : Nat
 I : Option Addr
 i : Nat
 r : Nat
def typeCells (x : TypeC) : List Value := [.string x.name, .bool x.enum, .slice x.F x.f x.p, .slice x.G x.g x.q, .slice x.I x.i x.r]
def RTypeC : Rel TypeC := RFlat typeCells
theorem RTypeC.fair : Fair RTypeC := RFlat.fair _
def ltRow (a b : TypeC) : Bool := decide (ltS a.name b.name)
def QRow (_ : TypeC) : Prop := True
theorem swap_perm {α : Type} {ys L : List α} {i j : Nat} (hi : i < ys.length) (hj : j < ys.length) (h : ys.Perm L) : ((ys.set i ys[j]).set j ys[i]).Perm L := (List.set_set_perm hi hj).trans h
theorem sgnRow (x y : TypeC) : ltRow x y = decide (cmpS x.name y.name < 0) := sgnType ⟨x.name, false, [], [], []⟩ ⟨y.name, false, [], [], []⟩
theorem cmpRow_any (S S' : Nat → Prop) (x y : TypeC) (cs cs' : List Value) (w : World) (hr : RTypeC S w cs x) (hr' : RTypeC S' w cs' y) (_ : QRow x) (_ : QRow y) : Calls Tryz.prog 40 #[.agg cs.toArray, .agg cs'.toArray] w (Ret w (.int .i64 (cmpS x.name y.name))) := by
 have e1 : cs = typeCells x := hr
 have e2 : cs' = typeCells y := hr'
 subst e1 e2
 clear hr hr'
 obtain ⟨xn, xe, xF, xf, xp, xG, xg, xq, xI, xi, xr⟩ := x
 obtain ⟨yn, ye, yF, yf, yp, yG, yg, yq, yI, yi, yr⟩ := y
 dsimp only [typeCells]
 obtain ⟨z1, z2, z3⟩ := boxes2 w [.string xn, .bool xe, .slice xF xf xp, .slice xG xg xq, .slice xI xi xr] [.string yn, .bool ye, .slice yF yf yp, .slice yG yg yq, .slice yI yi yr] 40 40
 go_enter Tryz.func40, Tryz.ntmps40
 go_wp2_with fail
 refine (Tryz.strings_Compare _ _ _).mono ?_
 rintro e w1 ⟨rfl, rfl⟩
 go_wp2_with fail
 go_ret
 exact ⟨rfl, z3⟩
end Go.Proofs.YtfobdbhmfohfnaaGreatDoor
