/- Behind a merge stands all that stood behind both (plain law of doF). -/
import Derived.Test.YthhldfpmhmocfaaGreatDoorRepod
set_option linter.all false
namespace Go.Proofs.YthhldfpmhmocfaaGreatDoor
theorem agd {i:Nat}{m:List Bool}{p:Int}{j:Nat}(h:m.getD j false=true):(nK i m p).getD j false=true:=by
 have hj:j<m.length:=by
  rcases Nat.lt_or_ge j m.length with hj | hj
  ·exact hj
  ·rw[List.getD_eq_getElem?_getD,List.getElem?_eq_none hj] at h;cases h
 unfold nK;split
 ·rw[xH hj];split
  ·rfl
  ·exact h
 ·exact h
theorem Ih {i:Nat}:∀ (l:List Int) {m:List Bool} {j:Nat},m.getD j false=true→(l.foldl (nK i) m).getD j false=true
 | [],_,_,h=>h
 | _::l,_,_,h=>Ih l (agd h)
theorem aaJ {i:Nat}{p:Int}(h0:0≤p)(h1:p<i):∀ (l:List Int) {m:List Bool},p∈l→i≤m.length→(l.foldl (nK i) m).getD p.toNat false=true
 | [],_,h,_=>by cases h
 | q::l,m,h,hm=>by
  rcases List.mem_cons.1 h with rfl | h
  ·refine Ih l ?_;unfold nK;rw[if_pos ⟨h0,h1⟩,xH (by omega),if_pos rfl]
  ·exact aaJ h0 h1 l h (by rw[Fg];exact hm)
theorem vQ {l:List fD}{p:Nat}:∀ (k:Nat) {m:List Bool},m.getD p false=true→p<k→(p:Int)∈kD l k m
 | 0,_,_,h=>absurd h (Nat.not_lt_zero _)
 | k+1,m,hm,h=>by
  rw[lS]
  by_cases e:p=k
  ·subst e;rw[if_pos hm];exact List.mem_cons_self
  ·split
   ·exact List.mem_cons_of_mem _ (vQ k (Ih _ hm) (by omega))
   ·exact vQ k hm (by omega)
theorem Gl {l:List fD}{n:Nat}{p:Int}(hn:n<l.length)(h0:0≤p)(h1:p<n)(hp:p∈kG l n):p∈dZ l n:=by
 unfold dZ;rw[if_neg (by omega),List.mem_reverse,Int.toNat_natCast,lS,if_pos (by rw[xH (by simpa using hn),if_pos rfl])];refine List.mem_cons_of_mem _ ?_;have:=vQ (l:=l) (p:=p.toNat) n (aaJ h0 h1 (kG l n) (m:=(List.replicate l.length false).set n true) hp (by simp;omega)) (by omega)
 rwa [Int.toNat_of_nonneg h0] at this
def afP (s s2:cK)(own other n:Int):Prop :=
 own∈dZ s2.cs n∧other∈dZ s2.cs n∧0≤own∧own<s.cs.length∧0≤other∧other<s.cs.length∧0≤n∧n<s2.cs.length∧(n=own∨n=other∨kG s2.cs n.toNat=[own,other]∧n=s2.cs.length-1)
theorem amc {s:cK}{a:mG}(h:gY s)(ha:a.kind=4)(hc:(zw s a).1.code=0) :
  qJ s.rs a.name=true∧qJ s.rs a.other=true∧afP s (zw s a).2 (fH s.rs (fB s.rs a.name)).commit (fH s.rs (fB s.rs a.other)).commit (zw s a).1.n:=by
 unfold zw at hc ⊢;rw[if_neg (by omega),if_neg (by omega),if_pos (by omega)] at hc ⊢
 by_cases h1:qJ s.rs a.name=false
 ·rw[if_pos h1] at hc;cases hc
 rw[if_neg h1] at hc ⊢;have h1t:qJ s.rs a.name=true:=by simpa using h1
 have hr1:=h.refs _ (Kl h1t).2;unfold uQ at hc ⊢;rw[if_neg (by omega),if_neg (by omega)] at hc ⊢;split at hc
 ·cases hc
 rename_i h2
 rw[if_neg h2];rw[if_pos ha];split at hc
 ·cases hc
 rename_i h3
 rw[if_neg h3];have h3t:qJ s.rs a.other=true:=by simpa using h3
 have hr2:=h.refs _ (Kl h3t).2;refine⟨h1t,h3t,?_⟩;generalize (fH s.rs (fB s.rs a.other)).commit=other at *;generalize he:fB s.rs a.name=k at *;generalize ho:(fH s.rs k).commit=own at *;split at hc
 ·rename_i h4
  rw[if_pos h4];have hm:other∈dZ s.cs own:=by
   unfold dV at h4;obtain⟨x,hx,e⟩:=List.any_eq_true.1 h4;simp only[decide_eq_true_eq] at e;exact e ▸ hx
  exact⟨DK hr1.1 hr1.2.1,hm,hr1.1,hr1.2.1,hr2.1,hr2.2.1,hr1.1,hr1.2.1,.inl rfl⟩
 rename_i h4
 rw[if_neg h4];split at hc
 ·rename_i h5
  rw[if_pos h5];unfold zC at hc ⊢;dsimp only at hc ⊢;rw[ho] at hc ⊢;generalize (if 0≤xz s.cs own other then ib s.cs (xz s.cs own other) else [])=was at hc ⊢;split at hc
  ·rename_i h6;exact absurd hc h6
  rename_i h6
  rw[if_neg h6];unfold wP at hc ⊢;split at hc
  ·cases hc
  rename_i h7
  rw[if_neg h7];split at hc
  ·cases hc
  rename_i h8
  rw[if_neg h8];generalize (fC was (ib s.cs own) (ib s.cs other)).1=nb;have hp:kG (s.cs++[⟨nb,[own,other]⟩]) s.cs.length=[own,other]:=by simp[kG]
  have hl:s.cs.length<(s.cs++[(⟨nb,[own,other]⟩:fD)]).length:=by simp
  refine⟨Gl hl hr1.1 hr1.2.1 (by rw[hp];simp),Gl hl hr2.1 hr2.2.1 (by rw[hp];simp),hr1.1,hr1.2.1,hr2.1,hr2.2.1,by simp[oJ],by simp[oJ];omega,.inr (.inr ⟨?_,?_⟩)⟩
  ·exact hp
  ·simp[oJ]
 ·rename_i h5
  rw[if_neg h5];have hm:own∈dZ s.cs other:=by
   have h5:dV (dZ s.cs other) own=true:=by simpa using h5
   unfold dV at h5;obtain⟨x,hx,e⟩:=List.any_eq_true.1 h5;simp only[decide_eq_true_eq] at e;exact e ▸ hx
  unfold moveF at hc ⊢;split at hc
  ·cases hc
  rename_i h6
  rw[if_neg h6];split at hc
  ·cases hc
  rename_i h7
  rw[if_neg h7];exact⟨hm,DK hr2.1 hr2.2.1,hr1.1,hr1.2.1,hr2.1,hr2.2.1,hr2.1,hr2.2.1,.inr (.inl rfl)⟩
end Go.Proofs.YthhldfpmhmocfaaGreatDoor
