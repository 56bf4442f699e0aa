/- Walks and plain laws. -/
import Derived.Lib.AppendIntMem
import Derived.Test.YtknnhpkjgnkcdaaGreatDoorSyms
import Derived.Test.YtknnhpkjgnkcdaaGreatDoorMwalks
set_option linter.all false
set_option maxRecDepth 100000
set_option maxHeartbeats 8000000
namespace Go.Proofs.YtknnhpkjgnkcdaaGreatDoor
open Go.Proofs.Tryz
open Go.RowKit
def Rdr (S:Nat→Prop)(w:World)(g:Nat)(r:Rd):Prop:=∃ v,Box w g 86 [v,.bool r.bad]∧RSl 1 16 lQ S w [v] r.l
def aen (S:Nat→Prop)(w:World)(g:Nat)(v:Value)(r:Rd)(e:Ending)(w':World):Prop:=e=.returned v∧Rdr S w' g r∧w.grownBy w' (some g)
theorem Rdr.lt {S:Nat→Prop}{w:World}{g:Nat}{r:Rd}(h:Rdr S w g r):g<w.heap.size:=by obtain⟨_,h,_⟩:=h;exact h.lt
theorem Rdr.keep {S:Nat→Prop}{w w':World}{g:Nat}{r:Rd}(h:Rdr S w g r)(hk:az (fun y=>S y∨y=g) w w'):Rdr S w' g r:=by
 obtain⟨v,h1,h2⟩:=h;exact⟨v,h1.keep hk (.inr rfl),(RSl.fair lQ.fair).keep h2 (hk.mono fun _ hy=>.inl hy)⟩
theorem Rdr.below {S:Nat→Prop}{w w':World}{g:Nat}{r:Rd}(h:Rdr S w g r)(hb:Below w.heap.size w w'):Rdr S w' g r:=h.keep (az.of_below hb)
theorem Rdr.gB {S:Nat→Prop}{w:World}{g:Nat}{r:Rd}(h:Rdr S w g r)(hS:¬ S g)(b:Bool):Rdr S (w.setCell ⟨g,1,none⟩ (.bool b)) g ⟨r.l,b⟩:=by
 obtain⟨v,h1,h2⟩:=h;exact⟨v,by simpa using h1.gB 1 (.bool b),(RSl.fair lQ.fair).keep h2 (az.setCell _ _ hS)⟩
theorem sM {w:World}{g i:Nat}(u:Value):w.grownBy (w.setCell ⟨g,i,none⟩ u) (some g):=iV (aK (Below.refl _ _) _) (.inl rfl) u
theorem adl {S:Nat→Prop}{w:World}{g o n cap:Nat}{s:ByteArray}{l:List ByteArray}(h:RSl 1 16 lQ S w [.slice (some ⟨g,o,none⟩) n cap] (s::l)):RSl 1 16 lQ S w [.slice (some ⟨g,o+1,none⟩) l.length (cap-1)] l:=by
 obtain⟨A,c,hv,hc,hb,hx⟩:=h;injection hv with hv _
 injection hv with h1 h2 h3
 subst h1 h2 h3;refine⟨_,_,rfl,by simp at hc;omega,by simp at hb;omega,fun k x hk=>?_⟩;obtain⟨g',o',cs,he,h4,h5,h6,h7,h8⟩:=hx (k+1) x (by simpa using hk);refine⟨g',o'+1,cs,by injection he with he;injection he with e1 e2;subst e1 e2;rfl,h4,h5,h6,h7,fun j hj=>?_⟩;have:=h8 j hj;rw[show o'+1+k*1+j=o'+(k+1)*1+j by omega];exact this
theorem ER (S:Nat→Prop)(g:Nat)(r:Rd)(w:World)(h:Rdr S w g r)(hS:¬ S g):Calls prog 30 #[.pointer (some ⟨g,0,none⟩)] w (aen S w g (.string r.next.1) r.next.2):=by
 obtain⟨l,bad⟩:=r;obtain⟨v,h1,h2⟩:=h;obtain⟨A,cap,rfl,hc,hb⟩:=h2.form;have c0:LL w g 0 (.slice A l.length cap):=h1.cell 0;have c1:LL w g 1 (.bool bad):=h1.cell 1;have f0:=h1.frozen 0;have f1:=h1.frozen 1;have hl:=h1.lt;cases l with
 | nil =>
  have HR:=hidL (show Rdr S (w.setCell ⟨g,1,none⟩ (.bool true)) g ⟨[],true⟩ from Rdr.gB (r:=⟨[],bad⟩) ⟨_,h1,h2⟩ hS true);clear h1 h2 hS;go_enter func30,ntmps30;go_wp2;go_ret;exact⟨rfl,HR.out,sM _⟩
 | cons s l =>
  obtain⟨gw,o,rfl,hSw,hlw⟩:=h2.base (by simp);obtain⟨es,-,hre,hli⟩:=h2.lies (k:=0) (by simp);have he:es=[.string s]:=hre;subst he;have d0:LL w gw o (.string s):=by have:=hli.at_ 0 rfl;simpa using this
  have hne:gw≠g:=fun e=>hS (e ▸ hSw)
  have hrest:=(RSl.fair lQ.fair).keep (adl h2) (az.setCell w (a:=⟨g,0,none⟩) (.slice (some ⟨gw,o+1,none⟩) l.length (cap-1)) hS);simp only[List.length_cons] at c0 hc;have hcl:(0:Int)<(l.length:Int)+1:=by omega
  by_cases h1c:cap=1
  ·obtain rfl:l=[]:=List.eq_nil_of_length_eq_zero (by omega);subst h1c;have HR:Hid (Rdr S (w.setCell ⟨g,0,none⟩ (.slice (some ⟨gw,o,none⟩) 0 0)) g ⟨[],bad⟩) :=
    ⟨_,by simpa using h1.gB 0 (.slice (some ⟨gw,o,none⟩) 0 0),⟨_,_,rfl,by simp,by simp,fun k x hk=>by simp at hk⟩⟩
   simp only[List.length_nil] at c0;clear h1 h2 hS hre hli hrest;go_enter func30,ntmps30;go_wp2;go_ret;exact⟨rfl,HR.out,sM _⟩
  ·have HR:Hid (Rdr S (w.setCell ⟨g,0,none⟩ (.slice (some ⟨gw,o+1,none⟩) l.length (cap-1))) g ⟨l,bad⟩) :=
    ⟨_,by simpa using h1.gB 0 (.slice (some ⟨gw,o+1,none⟩) l.length (cap-1)),hrest⟩
   obtain⟨c2,hc2⟩:∃ c,cap=c+2:=⟨cap-2,by omega⟩;subst hc2;clear h1 h2 hS hre hli hrest h1c;go_enter func30,ntmps30;go_wp2;go_ret;exact⟨rfl,HR.out,sM _⟩
theorem Ze (S:Nat→Prop)(g:Nat)(r:Rd)(s:ByteArray)(w:World)(h:Rdr S w g r)(hS:¬ S g):Calls prog 62 #[.pointer (some ⟨g,0,none⟩),.string s] w (aen S w g (.tuple #[]) (r.take s)):=by
 have hn:=hidL (ER S g r w h hS);obtain⟨x,hx⟩:=exE r.next.1;obtain⟨r2,hr2⟩:=exE r.next.2;have Ht:Hid (r.take s=if x=s then r2 else ⟨r2.l,true⟩):=by show _=_;rw[hx,hr2];rfl
 rw[←hx,←hr2] at hn;have HS:=hidL hS;clear h hx hr2 hS;go_enter func62,ntmps62;go_wp2_with fail;refine hn.out.mono ?_;rintro e w1 ⟨rfl,h1,hg⟩
 by_cases he:x=s
 ·have HR:=hidL (show Rdr S w1 g (r.take s) by rw[Ht.out,if_pos he];exact h1);have eb:(!(x.toList==s.toList))=false:=by rw[ba_eq];simp[he]
  clear he;go_wp2_with fail;refine bodyPost_end (results_none rfl _ _ _) rfl ?_;exact⟨rfl,HR.out,hg⟩
 ·have HR:=hidL (show Rdr S (w1.setCell ⟨g,1,none⟩ (.bool true)) g (r.take s) by rw[Ht.out,if_neg he];exact h1.gB HS.out true);have eb:(!(x.toList==s.toList))=true:=by rw[ba_eq];simp[he]
  obtain⟨v,hb,_⟩:=h1;have c1:LL w1 g 1 (.bool r2.bad):=hb.cell 1;have f1:=hb.frozen 1;have hl:=hb.lt;clear he hb;go_wp2_with fail;refine bodyPost_end (results_none rfl _ _ _) rfl ?_;exact⟨rfl,HR.out,aF hg (sM _) (.inl rfl)⟩
theorem XE (S:Nat→Prop)(g:Nat)(r:Rd)(s:ByteArray)(w:World)(h:Rdr S w g r):Calls prog 63 #[.pointer (some ⟨g,0,none⟩),.string s] w (Ret w (.bool (r.at_ s))):=by
 obtain⟨l,bad⟩:=r;obtain⟨v,h1,h2⟩:=h;obtain⟨A,cap,rfl,hc,hb⟩:=h2.form;have c0:LL w g 0 (.slice A l.length cap):=h1.cell 0;have hl:=h1.lt;cases l with
 | nil =>
  clear h1 h2;go_enter func63,ntmps63;go_wp2;go_ret;exact⟨rfl,Below.refl _ _⟩
 | cons x l =>
  obtain⟨gw,o,rfl,hSw,hlw⟩:=h2.base (by simp);obtain⟨es,-,hre,hli⟩:=h2.lies (k:=0) (by simp);have he:es=[.string x]:=hre;subst he;have d0:LL w gw o (.string x):=by have:=hli.at_ 0 rfl;simpa using this
  simp only[List.length_cons] at c0 hc;have hcl:(0:Int)<(l.length:Int)+1:=by omega
  have Ha:Hid ((Rd.mk (x::l) bad).at_ s=(x.toList==s.toList)):=by show decide (x=s)=_;rw[ba_eq]
  clear h1 h2 hre hli;go_enter func63,ntmps63;go_wp2;go_ret;exact⟨by rw[Ha.out];rfl,Below.refl _ _⟩
theorem amz {x:ByteArray}(h:0<x.size):isW x=decide (97≤x[0].toNat∧x[0].toNat≤122):=by
 unfold isW;have hl:(bytes x).length=x.size:=rfl;cases hb:bytes x with
 | nil=>rw[hb] at hl;simp at hl;omega
 | cons c l =>
  have:x[0]=c:=by
   have e:(bytes x)[0]'(by rw[hl];exact h)=c:=by simp only[hb];rfl
   exact e
  rw[this];rfl
theorem JN (S:Nat→Prop)(g:Nat)(r:Rd)(w:World)(h:Rdr S w g r)(hS:¬ S g)(hz:r.next.1.size≤9223372036854775807):Calls prog 61 #[.pointer (some ⟨g,0,none⟩)] w (aen S w g (.string r.word.1) r.word.2):=by
 have hn:=hidL (ER S g r w h hS);obtain⟨x,hx⟩:=exE r.next.1;obtain⟨r2,hr2⟩:=exE r.next.2;have Ht:Hid (r.word=(x,if isW x then r2 else ⟨r2.l,true⟩)):=by show _=_;rw[hx,hr2];rfl
 rw[←hx,←hr2] at hn;rw[←hx] at hz;rw[Ht.out];obtain⟨r3,hr3⟩:=exE (if isW x then r2 else ⟨r2.l,true⟩);rw[←hr3];have H3:=hidL hr3;have HS:=hidL hS;clear h hx hr2 hS Ht hr3;go_enter func61,ntmps61;go_wp2_with fail;refine hn.out.mono ?_;rintro e w1 ⟨rfl,h1,hg⟩;have HR:=hidL h1;have HRb:=hidL (h1.gB HS.out true);obtain⟨v,hb,_⟩:=h1;have c1:LL w1 g 1 (.bool r2.bad):=hb.cell 1;have f1:=hb.frozen 1;have hl:=hb.lt;have hgg:=aF hg (sM (g:=g) (i:=1) (.bool true)) (.inl rfl);clear hb
 by_cases h0:0<x.size
 ·have hne:(x.toList==([]:List UInt8))=false:=by
   rw[ByteArray.toList_eq];cases hd:x.data.toList with
   | nil=>exact absurd (show x.size=0 from congrArg List.length hd) (by omega)
   | cons c l=>rfl
  have hw:=amz h0
  by_cases hc:97≤x[0].toNat∧x[0].toNat≤122
  ·obtain⟨hc1,hc2⟩:=hc;have HW:Hid (isW x=true):=by show _=_;rw[hw];simp[hc1,hc2]
   clear hw;go_wp2;go_ret;exact⟨rfl,by rw[H3.out,HW.out,if_pos rfl];exact HR.out,hg⟩
  ·have HW:Hid (isW x=false):=by show _=_;rw[hw];exact decide_eq_false hc
   clear hw
   by_cases hc1:x[0].toNat<97
   ·clear hc;go_wp2;go_ret;exact⟨rfl,by rw[H3.out,HW.out,if_neg (by simp)];exact HRb.out,hgg⟩
   ·have hc2:122<x[0].toNat:=by omega
    have hc3:97≤x[0].toNat:=by omega
    clear hc hc1;go_wp2;go_ret;exact⟨rfl,by rw[H3.out,HW.out,if_neg (by simp)];exact HRb.out,hgg⟩
 ·have hx0:x=⟨#[]⟩:=by
   have hl0:(bytes x).length=0:=by show x.size=0;omega
   exact qb (List.eq_nil_of_length_eq_zero hl0)
  subst hx0;go_wp2;go_ret;exact⟨rfl,by rw[H3.out,show isW ⟨#[]⟩=false from rfl,if_neg (by simp)];exact HRb.out,hgg⟩
theorem ajk:dK prog 81 9 1 16:=dK.mk (z:=.string .empty) underlying81 (by decide) (by decide) (by kernel_rfl) rfl
def spl (l:List UInt8):Option (List ByteArray):=jJ l.length l
theorem ahW {k:Nat}{l:List UInt8}(h:l.length≤k):jJ k l=spl l:=pJ _ _ _ h (Nat.le_refl _)
theorem afU {c:UInt8}{l:List UInt8}(h:nV c=true):spl (c::l)=spl l:=by
 unfold spl;rw[List.length_cons,jJ,if_pos h]
theorem aiF {c:UInt8}{l:List UInt8}(h:nV c=false)(h2:tX c=true):spl (c::l)=(spl l).map (⟨#[c]⟩ :: ·):=by
 unfold spl;rw[List.length_cons,jJ,if_neg (by simp[h]),if_pos h2]
theorem aei {c:UInt8}{l:List UInt8}(h:nV c=false)(h2:tX c=false)(h3:isLet c=true):spl (c::l)=(spl (l.dropWhile isLet)).map (⟨(c::l.takeWhile isLet).toArray⟩ :: ·):=by
 unfold spl;rw[List.length_cons,jJ,if_neg (by simp[h]),if_neg (by simp[h2]),if_pos h3,ahW (List.dropWhile_suffix isLet).length_le];rfl
theorem aeV {c:UInt8}{l:List UInt8}(h:nV c=false)(h2:tX c=false)(h3:isLet c=false)(h4:(decide (c.toNat=45)||jK c)=true):spl (c::l)=(spl (l.dropWhile jK)).map (⟨(c::l.takeWhile jK).toArray⟩ :: ·):=by
 unfold spl;rw[List.length_cons,jJ,if_neg (by simp[h]),if_neg (by simp[h2]),if_neg (by simp[h3]),if_pos h4,ahW (List.dropWhile_suffix jK).length_le];rfl
theorem ajl {c:UInt8}{l:List UInt8}(h:nV c=false)(h2:tX c=false)(h3:isLet c=false)(h4:(decide (c.toNat=45)||jK c)=false):spl (c::l)=none:=by
 unfold spl;rw[List.length_cons,jJ,if_neg (by simp[h]),if_neg (by simp[h2]),if_neg (by simp[h3]),if_neg (by simp[h4])]
theorem run_end {p:UInt8→Bool}{c:UInt8}{l:List UInt8}{n:Nat}(hn:n≤l.length)(ha:∀ x∈l.take n,p x=true)(he:∀ h:n<l.length,p l[n]=false):c::l.takeWhile p=(c::l).take (n+1)∧l.dropWhile p=(c::l).drop (n+1):=by
 have e:l=l.take n++l.drop n:=(List.take_append_drop n l).symm;have h2:=LP (p:=p) (w:=l.take n) (l:=l.drop n) ha (fun x hx=>by
  rw[List.head?_drop] at hx;have hlt:n<l.length:=by
   rcases Nat.lt_or_ge n l.length with h | h
   ·exact h
   ·rw[List.getElem?_eq_none h] at hx;cases hx
  rw[List.getElem?_eq_getElem hlt] at hx;injection hx with hx
  rw[←hx];exact he hlt)
 rw[←e] at h2;rw[h2.1,h2.2];exact⟨rfl,rfl⟩
theorem Yg {p:UInt8→Bool}{c:UInt8}{l:List UInt8}{cur:ByteArray}(hl:bytes cur=c::l){m:Nat}(h1:1≤m)(hm:m≤cur.size)(ha:∀ i (h:i<cur.size),1≤i→i<m→p cur[i]=true)(he:∀ h:m<cur.size,p cur[m]=false) :
  c::l.takeWhile p=(bytes cur).take m∧l.dropWhile p=(bytes cur).drop m:=by
 have hz:l.length+1=cur.size:=by
  have e:(bytes cur).length=cur.size:=rfl;rw[hl] at e;simpa using e
 have hat:∀ i (h:i<cur.size) (hi:i-1<l.length),1≤i→cur[i]=l[i-1]:=fun i h hi h1=>by
  have e2:(bytes cur)[i]'h=cur[i]:=rfl;rw[←e2];simp only[hl];rw[List.getElem_cons,dif_neg (by omega)]
 have:=run_end (p:=p) (c:=c) (l:=l) (n:=m-1) (by omega) (fun x hx=>by
  obtain⟨j,hj,rfl⟩:=List.getElem_of_mem hx;rw[List.getElem_take];rw[List.length_take] at hj;have hj2:j+1<cur.size:=by omega
  have:=ha (j+1) hj2 (by omega) (by omega);rw[hat (j+1) hj2 (by simp;omega) (by omega)] at this;simpa using this) (fun h=>by
  have hm2:m<cur.size:=by omega
  have:=he hm2;rw[hat m hm2 h h1] at this;exact this)
 rw[show m-1+1=m by omega,←hl] at this;exact this
def ajA (w:World)(r:Option (List ByteArray))(e:Ending)(w':World):Prop :=
 ∃ v,e=.returned (.tuple #[v,.bool r.isSome])∧RSl 1 16 lQ (fun y=>w.heap.size≤y) w' [v] (r.getD [])∧Below w.heap.size w w'
theorem ahB (s:ByteArray)(w:World)(hs:s.size≤4000):Calls prog 29 #[.string s] w (ajA w (spl (bytes s))):=by
 have Hs:=hidL hs;obtain⟨r,hr⟩:=exE (spl (bytes s));rw[←hr];have Hr:=hidL hr;clear hr;go_enter func29,ntmps29;go_wp2_with fail;go_loopw [0,4] (fun c0 c4 wr=>∃ (cur:ByteArray) (acc:List ByteArray),c0=.string cur∧cur.size+acc.length≤4000∧Hid (spl (bytes s)=(spl (bytes cur)).map (acc ++ ·))∧Own w.heap.size 9 1 lQ NoT wr c4 acc∧Below w.heap.size w wr) (fun c0 _ wr=>match c0 with | .string t=>t.size | _=>0)
 case atStart=>exact⟨s,[],rfl,by simpa using hs,(show _=_ by simp),Own.dJ _ _ _ _ _ _,Below.refl _ _⟩
 case round =>
  obtain⟨cur,acc,rfl,hca,He,hO,hb⟩:=hrel
  by_cases h0:0<cur.size
  ·--[RND
   obtain⟨l,hl⟩:∃ l,bytes cur=cur[0]::l:=⟨(bytes cur).tail,by
    have e:(bytes cur).length=cur.size:=rfl;cases hb:bytes cur with
    | nil=>rw[hb] at e;simp at e;omega
    | cons c l =>
     have:cur[0]=c:=by
      have e2:(bytes cur)[0]'(by rw[e];exact h0)=c:=by simp only[hb];rfl
      exact e2
     rw[this];rfl⟩
   obtain⟨c,hc⟩:=exE (cur[0]);rw[←hc] at hl;obtain⟨kn,hkn⟩:=exE c.toNat;have hk256:kn<256:=by rw[hkn];exact c.toNat_lt
   have hcw:nV c=decide (kn=32∨kn=10∨kn=9∨kn=13):=by unfold nV;rw[hkn]
   have hcs:tX c=decide (kn=123∨kn=125∨kn=59):=by unfold tX;rw[hkn]
   have hcl:isLet c=decide (97≤kn∧kn≤122):=by unfold isLet;rw[hkn]
   have hcd:(decide (c.toNat=45)||jK c)=decide (kn=45∨48≤kn∧kn≤57):=by
    unfold jK;rw[hkn]
    by_cases a:c.toNat=45 <;> by_cases b:48≤c.toNat∧c.toNat≤57 <;> simp[a,b]
   have Hl:=hidL hl;have Hcw:=hidL hcw;have Hcs:=hidL hcs;have Hcl:=hidL hcl;have Hcd:=hidL hcd;have hne:(cur.toList==([]:List UInt8))=false:=by
    rw[ByteArray.toList_eq];cases hd:cur.data.toList with
    | nil=>exact absurd (show cur.size=0 from congrArg List.length hd) (by omega)
    | cons c l=>rfl
   clear hl hcw hcs hcl hcd;go_upto_region 6 with fail;rw[←hc,←hkn];clear hc hkn hne;obtain⟨W,hW⟩:=exE wr;subst hW;go_upto_region 6 with fail;go_cut [11] from 12 to 25 (fun c wx=>c=.bool (decide (kn=32∨kn=10∨kn=9∨kn=13))∧wx=W)
   case first =>
    by_cases a0:kn=32
    ·have e0:((kn:Int)==32)=true:=by simp;omega
     have Ed:Hid (decide (kn=32∨kn=10∨kn=9∨kn=13)=true):=by show _=_;simp;omega
     clear a0;go_wp2;go_meet
     case rel=>exact⟨by rw[Ed.out],rfl⟩
    ·by_cases a1:kn=10
     ·have e0:((kn:Int)==32)=false:=by simp;omega
      have e1:((kn:Int)==10)=true:=by simp;omega
      have Ed:Hid (decide (kn=32∨kn=10∨kn=9∨kn=13)=true):=by show _=_;simp;omega
      clear a0 a1;go_wp2;go_meet
      case rel=>exact⟨by rw[Ed.out],rfl⟩
     ·by_cases a2:kn=9
      ·have e0:((kn:Int)==32)=false:=by simp;omega
       have e1:((kn:Int)==10)=false:=by simp;omega
       have e2:((kn:Int)==9)=true:=by simp;omega
       have Ed:Hid (decide (kn=32∨kn=10∨kn=9∨kn=13)=true):=by show _=_;simp;omega
       clear a0 a1 a2;go_wp2;go_meet
       case rel=>exact⟨by rw[Ed.out],rfl⟩
      ·by_cases a3:kn=13
       ·have e0:((kn:Int)==32)=false:=by simp;omega
        have e1:((kn:Int)==10)=false:=by simp;omega
        have e2:((kn:Int)==9)=false:=by simp;omega
        have e3:((kn:Int)==13)=true:=by simp;omega
        have Ed:Hid (decide (kn=32∨kn=10∨kn=9∨kn=13)=true):=by show _=_;simp;omega
        clear a0 a1 a2 a3;go_wp2;go_meet
        case rel=>exact⟨by rw[Ed.out],rfl⟩
       ·have e0:((kn:Int)==32)=false:=by simp;omega
        have e1:((kn:Int)==10)=false:=by simp;omega
        have e2:((kn:Int)==9)=false:=by simp;omega
        have e3:((kn:Int)==13)=false:=by simp;omega
        have Ed:Hid (decide (kn=32∨kn=10∨kn=9∨kn=13)=false):=by show _=_;simp;omega
        clear a0 a1 a2 a3;go_wp2;go_meet
        case rel=>exact⟨by rw[Ed.out],rfl⟩
   case rest =>
    obtain⟨rfl,rfl⟩:=hcut;obtain⟨W,hW⟩:=exE wc;subst hW
    by_cases hw:kn=32∨kn=10∨kn=9∨kn=13
    ·have hwt:nV c=true:=by rw[Hcw.out];exact decide_eq_true hw
     rw[decide_eq_true hw];clear hw;obtain⟨rs,hrs⟩:∃ x,cur.extract 1 cur.size=x:=⟨_,rfl⟩;have b1:bytes rs=l:=by rw[←hrs,uK,Hl.out];rfl
     have hstep:Hid (spl (bytes s)=(spl (bytes rs)).map (acc ++ ·)):=by show _=_;rw[He.out,Hl.out,afU hwt,b1]
     have hrz:rs.size<cur.size:=by
      have e1:(bytes rs).length=rs.size:=rfl;have e2:(bytes cur).length=cur.size:=rfl;rw[b1] at e1;rw[Hl.out,List.length_cons] at e2;omega
     have Hrz:=hidL hrz;have Hca:=hidL hca;clear b1 hrz hca hwt He;go_wp2;go_roundw
     case rel=>exact⟨rs,acc,rfl,by have:=Hca.out;have:=Hrz.out;omega,hstep,hO,hb⟩
     case measure=>exact Hrz.out
    ·have hwf:nV c=false:=by rw[Hcw.out];exact decide_eq_false hw
     rw[decide_eq_false hw];clear hw;go_upto_region 8 with fail;go_cut [28] from 29 to 38 (fun c wx=>c=.bool (decide (kn=123∨kn=125∨kn=59))∧wx=W)
     case first =>
      by_cases a0:kn=123
      ·have e0:((kn:Int)==123)=true:=by simp;omega
       have Ed:Hid (decide (kn=123∨kn=125∨kn=59)=true):=by show _=_;simp;omega
       clear a0;go_wp2;go_meet
       case rel=>exact⟨by rw[Ed.out],rfl⟩
      ·by_cases a1:kn=125
       ·have e0:((kn:Int)==123)=false:=by simp;omega
        have e1:((kn:Int)==125)=true:=by simp;omega
        have Ed:Hid (decide (kn=123∨kn=125∨kn=59)=true):=by show _=_;simp;omega
        clear a0 a1;go_wp2;go_meet
        case rel=>exact⟨by rw[Ed.out],rfl⟩
       ·by_cases a2:kn=59
        ·have e0:((kn:Int)==123)=false:=by simp;omega
         have e1:((kn:Int)==125)=false:=by simp;omega
         have e2:((kn:Int)==59)=true:=by simp;omega
         have Ed:Hid (decide (kn=123∨kn=125∨kn=59)=true):=by show _=_;simp;omega
         clear a0 a1 a2;go_wp2;go_meet
         case rel=>exact⟨by rw[Ed.out],rfl⟩
        ·have e0:((kn:Int)==123)=false:=by simp;omega
         have e1:((kn:Int)==125)=false:=by simp;omega
         have e2:((kn:Int)==59)=false:=by simp;omega
         have Ed:Hid (decide (kn=123∨kn=125∨kn=59)=false):=by show _=_;simp;omega
         clear a0 a1 a2;go_wp2;go_meet
         case rel=>exact⟨by rw[Ed.out],rfl⟩
     case rest =>
      obtain⟨rfl,rfl⟩:=hcut;obtain⟨W,hW⟩:=exE wc;subst hW
      by_cases hw:kn=123∨kn=125∨kn=59
      ·have hst:tX c=true:=by rw[Hcs.out];exact decide_eq_true hw
       rw[decide_eq_true hw];clear hw;have hsp:spl (bytes cur)=(spl ((bytes cur).drop 1)).map (⟨((bytes cur).take 1).toArray⟩ :: ·):=by rw[Hl.out,aiF hwf hst];rfl
       have hsz:(1:Int)≤cur.size:=by omega
       clear hwf hst;obtain⟨wd,hwd⟩:∃ x,cur.extract 0 1=x:=⟨_,rfl⟩;obtain⟨rs,hrs⟩:∃ x,cur.extract 1 cur.size=x:=⟨_,rfl⟩;have b1:bytes rs=(bytes cur).drop 1:=by rw[←hrs,uK]
       have b2:wd=⟨((bytes cur).take 1).toArray⟩:=qb (by rw[←hwd,Rm]);have hstep:Hid (spl (bytes s)=(spl (bytes rs)).map ((acc++[wd]) ++ ·)):=by
        show _=_;rw[He.out,hsp,b1,←b2];cases spl ((bytes cur).drop 1) with
        | none=>rfl
        | some l=>simp
       have hrz:rs.size<cur.size:=by
        have e1:(bytes rs).length=rs.size:=rfl;have e2:(bytes cur).length=cur.size:=rfl;rw[b1,List.length_drop] at e1;omega
       have Hrz:=hidL hrz;have Hca:=hidL hca;have hOa:=hO.alloc lQ.fair (.cells #[.string wd] 9);have hba:=hb.alloc hb.size (.cells #[.string wd] 9);have hbs:=hb.size;have hbx:Box (W.alloc (.cells #[.string wd] 9)) W.heap.size 9 [.string wd]:=Box.new _ _ _;clear b1 b2 hrz hca hO hb He;go_wp2_with (at_builtin;go_must (refine bv _ rfl (.tmp 93) (.tmp 97) rfl ajk lQ.fair rfl rfl hOa (Src.one (es:=[.string wd]) (y:=wd) rfl (gI.bK rfl) rfl hbx.lies) (NoT.lt _) ?_ ?_ ?_))
       ·have:=Hca.out;try simp
        go_light;omega
       ·try simp
        go_light;omega
       intro v5 w5 ho5 hg5 hv5;have hb5:=below_grown hba hg5 (by (try simp);go_light;omega) (fun g' h=>(hOa.lt h).1);clear hOa hba hg5 hv5;go_wp2;go_roundw
       case rel=>exact⟨rs,acc++[wd],rfl,by have:=Hca.out;have:=Hrz.out;(try simp);omega,hstep,ho5,hb5⟩
       case measure=>exact Hrz.out
      ·have hsf:tX c=false:=by rw[Hcs.out];exact decide_eq_false hw
       rw[decide_eq_false hw];clear hw;go_upto_region 9 with fail;go_cut [39] from 40 to 45 (fun c wx=>c=.bool (decide (97≤kn∧kn≤122))∧wx=W)
       case first =>
        by_cases a0:97≤kn
        ·by_cases a1:kn≤122
         ·have e0:decide ((kn:Int)≥97)=true:=by simp;omega
          have e1:decide ((kn:Int)≤122)=true:=by simp;omega
          have e2:decide ((97:Int)≤kn)=true:=by simp;omega
          have Ed:Hid (decide (97≤kn∧kn≤122)=true):=by show _=_;simp;omega
          clear a0 a1;go_wp2;go_meet
          case rel=>exact⟨by rw[Ed.out],rfl⟩
         ·have e0:decide ((kn:Int)≥97)=true:=by simp;omega
          have e1:decide ((kn:Int)≤122)=false:=by simp;omega
          have e2:decide ((97:Int)≤kn)=true:=by simp;omega
          have Ed:Hid (decide (97≤kn∧kn≤122)=false):=by show _=_;simp;omega
          clear a0 a1;go_wp2;go_meet
          case rel=>exact⟨by rw[Ed.out],rfl⟩
        ·have e0:decide ((kn:Int)≥97)=false:=by simp;omega
         have e2:decide ((97:Int)≤kn)=false:=by simp;omega
         have Ed:Hid (decide (97≤kn∧kn≤122)=false):=by show _=_;simp;omega
         clear a0;go_wp2;go_meet
         case rel=>exact⟨by rw[Ed.out],rfl⟩
       case rest =>
        obtain⟨rfl,rfl⟩:=hcut;obtain⟨W,hW⟩:=exE wc;subst hW
        by_cases hw:97≤kn∧kn≤122
        ·--[LET
         have hlt:isLet c=true:=by rw[Hcl.out];exact decide_eq_true hw
         rw[decide_eq_true hw];clear hw;go_wp2_with fail;go_loopw [6] (fun c6 wi=>∃ m:Nat,c6=O m∧1≤m∧m≤cur.size∧Hid (∀ i (h:i<cur.size),1≤i→i<m→isLet cur[i]=true)∧wi=W) (fun c6 _=>cur.size-(intOf c6).toNat)
         case atStart=>exact⟨1,rfl,Nat.le_refl _,by omega,(show ∀ i (h:i<cur.size),1≤i→i<1→isLet cur[i]=true from fun i _ h1 h2=>absurd h1 (by omega)),rfl⟩
         case round =>
          obtain⟨m,rfl,hm1,hmz,Hrun,rfl⟩:=hrel;obtain⟨W,hW⟩:=exE wr;subst hW;have hmz':(m:Int)≤cur.size:=by omega
          by_cases hm:m<cur.size
          ·by_cases hcm:97≤cur[m].toNat∧cur[m].toNat≤122
           ·obtain⟨hc1,hc2⟩:=hcm;have hp:isLet cur[m]=true:=by unfold isLet;simp[hc1,hc2]
            have Hr2:Hid (∀ i (h:i<cur.size),1≤i→i<m+1→isLet cur[i]=true):=fun i h h1 h2=>by
             by_cases e:i<m
             ·exact Hrun.out i h h1 e
             ·obtain rfl:i=m:=by omega
              exact hp
            clear hp;go_wp2;go_roundw
            case rel=>exact⟨m+1,by simp,by omega,hm,Hr2,by trivial⟩
            case measure=>go_light;simp[intOf];omega
           ·have hp:isLet cur[m]=false:=by unfold isLet;exact decide_eq_false hcm
            obtain⟨q1,q2⟩:=Yg (p:=isLet) Hl.out hm1 hmz Hrun.out (fun _=>hp);have hsp:spl (bytes cur)=(spl ((bytes cur).drop m)).map (⟨((bytes cur).take m).toArray⟩ :: ·):=by rw[←q1,←q2,Hl.out];exact aei hwf hsf hlt
            clear q1 q2 hp Hrun
            by_cases hc1:cur[m].toNat<97
            ·clear hcm;obtain⟨wd,hwd⟩:∃ x,cur.extract 0 m=x:=⟨_,rfl⟩;obtain⟨rs,hrs⟩:∃ x,cur.extract m cur.size=x:=⟨_,rfl⟩;have b1:bytes rs=(bytes cur).drop m:=by rw[←hrs,uK]
             have b2:wd=⟨((bytes cur).take m).toArray⟩:=qb (by rw[←hwd,Rm]);have hstep:Hid (spl (bytes s)=(spl (bytes rs)).map ((acc++[wd]) ++ ·)):=by
              show _=_;rw[He.out,hsp,b1,←b2];cases spl ((bytes cur).drop m) with
              | none=>rfl
              | some l=>simp
             have hrz:rs.size<cur.size:=by
              have e1:(bytes rs).length=rs.size:=rfl;have e2:(bytes cur).length=cur.size:=rfl;rw[b1,List.length_drop] at e1;omega
             have Hrz:=hidL hrz;have Hca:=hidL hca;have hOa:=hO.alloc lQ.fair (.cells #[.string wd] 9);have hba:=hb.alloc hb.size (.cells #[.string wd] 9);have hbs:=hb.size;have hbx:Box (W.alloc (.cells #[.string wd] 9)) W.heap.size 9 [.string wd]:=Box.new _ _ _;clear b1 b2 hrz hca hO hb He;go_wp2_with (at_builtin;go_must (refine bv _ rfl (.tmp 93) (.tmp 97) rfl ajk lQ.fair rfl rfl hOa (Src.one (es:=[.string wd]) (y:=wd) rfl (gI.bK rfl) rfl hbx.lies) (NoT.lt _) ?_ ?_ ?_))
             ·have:=Hca.out;try simp
              go_light;omega
             ·try simp
              go_light;omega
             intro v5 w5 ho5 hg5 hv5;have hb5:=below_grown hba hg5 (by (try simp);go_light;omega) (fun g' h=>(hOa.lt h).1);clear hOa hba hg5 hv5;go_wp2;go_roundw
             case rel=>exact⟨rs,acc++[wd],rfl,by have:=Hca.out;have:=Hrz.out;(try simp);omega,hstep,ho5,hb5⟩
             case measure=>exact Hrz.out
            ·have hc2:122<cur[m].toNat:=by omega
             have hc3:97≤cur[m].toNat:=by omega
             clear hcm hc1;obtain⟨wd,hwd⟩:∃ x,cur.extract 0 m=x:=⟨_,rfl⟩;obtain⟨rs,hrs⟩:∃ x,cur.extract m cur.size=x:=⟨_,rfl⟩;have b1:bytes rs=(bytes cur).drop m:=by rw[←hrs,uK]
             have b2:wd=⟨((bytes cur).take m).toArray⟩:=qb (by rw[←hwd,Rm]);have hstep:Hid (spl (bytes s)=(spl (bytes rs)).map ((acc++[wd]) ++ ·)):=by
              show _=_;rw[He.out,hsp,b1,←b2];cases spl ((bytes cur).drop m) with
              | none=>rfl
              | some l=>simp
             have hrz:rs.size<cur.size:=by
              have e1:(bytes rs).length=rs.size:=rfl;have e2:(bytes cur).length=cur.size:=rfl;rw[b1,List.length_drop] at e1;omega
             have Hrz:=hidL hrz;have Hca:=hidL hca;have hOa:=hO.alloc lQ.fair (.cells #[.string wd] 9);have hba:=hb.alloc hb.size (.cells #[.string wd] 9);have hbs:=hb.size;have hbx:Box (W.alloc (.cells #[.string wd] 9)) W.heap.size 9 [.string wd]:=Box.new _ _ _;clear b1 b2 hrz hca hO hb He;go_wp2_with (at_builtin;go_must (refine bv _ rfl (.tmp 93) (.tmp 97) rfl ajk lQ.fair rfl rfl hOa (Src.one (es:=[.string wd]) (y:=wd) rfl (gI.bK rfl) rfl hbx.lies) (NoT.lt _) ?_ ?_ ?_))
             ·have:=Hca.out;try simp
              go_light;omega
             ·try simp
              go_light;omega
             intro v5 w5 ho5 hg5 hv5;have hb5:=below_grown hba hg5 (by (try simp);go_light;omega) (fun g' h=>(hOa.lt h).1);clear hOa hba hg5 hv5;go_wp2;go_roundw
             case rel=>exact⟨rs,acc++[wd],rfl,by have:=Hca.out;have:=Hrz.out;(try simp);omega,hstep,ho5,hb5⟩
             case measure=>exact Hrz.out
          ·obtain⟨q1,q2⟩:=Yg (p:=isLet) Hl.out hm1 hmz Hrun.out (fun h=>absurd h hm);have hsp:spl (bytes cur)=(spl ((bytes cur).drop m)).map (⟨((bytes cur).take m).toArray⟩ :: ·):=by rw[←q1,←q2,Hl.out];exact aei hwf hsf hlt
           clear q1 q2 Hrun;obtain⟨wd,hwd⟩:∃ x,cur.extract 0 m=x:=⟨_,rfl⟩;obtain⟨rs,hrs⟩:∃ x,cur.extract m cur.size=x:=⟨_,rfl⟩;have b1:bytes rs=(bytes cur).drop m:=by rw[←hrs,uK]
           have b2:wd=⟨((bytes cur).take m).toArray⟩:=qb (by rw[←hwd,Rm]);have hstep:Hid (spl (bytes s)=(spl (bytes rs)).map ((acc++[wd]) ++ ·)):=by
            show _=_;rw[He.out,hsp,b1,←b2];cases spl ((bytes cur).drop m) with
            | none=>rfl
            | some l=>simp
           have hrz:rs.size<cur.size:=by
            have e1:(bytes rs).length=rs.size:=rfl;have e2:(bytes cur).length=cur.size:=rfl;rw[b1,List.length_drop] at e1;omega
           have Hrz:=hidL hrz;have Hca:=hidL hca;have hOa:=hO.alloc lQ.fair (.cells #[.string wd] 9);have hba:=hb.alloc hb.size (.cells #[.string wd] 9);have hbs:=hb.size;have hbx:Box (W.alloc (.cells #[.string wd] 9)) W.heap.size 9 [.string wd]:=Box.new _ _ _;clear b1 b2 hrz hca hO hb He;go_wp2_with (at_builtin;go_must (refine bv _ rfl (.tmp 93) (.tmp 97) rfl ajk lQ.fair rfl rfl hOa (Src.one (es:=[.string wd]) (y:=wd) rfl (gI.bK rfl) rfl hbx.lies) (NoT.lt _) ?_ ?_ ?_))
           ·have:=Hca.out;try simp
            go_light;omega
           ·try simp
            go_light;omega
           intro v5 w5 ho5 hg5 hv5;have hb5:=below_grown hba hg5 (by (try simp);go_light;omega) (fun g' h=>(hOa.lt h).1);clear hOa hba hg5 hv5;go_wp2;go_roundw
           case rel=>exact⟨rs,acc++[wd],rfl,by have:=Hca.out;have:=Hrz.out;(try simp);omega,hstep,ho5,hb5⟩
           case measure=>exact Hrz.out
        ·have hlf:isLet c=false:=by rw[Hcl.out];exact decide_eq_false hw
         rw[decide_eq_false hw];clear hw;go_upto_region 12 with fail;go_cut [64] from 65 to 74 (fun c wx=>c=.bool (decide (kn=45∨48≤kn∧kn≤57))∧wx=W)
         case first =>
          by_cases a0:kn=45
          ·have e0:((kn:Int)==45)=true:=by simp;omega
           have Ed:Hid (decide (kn=45∨48≤kn∧kn≤57)=true):=by show _=_;simp;omega
           clear a0;go_wp2;go_meet
           case rel=>exact⟨by rw[Ed.out],rfl⟩
          ·by_cases a1:48≤kn
           ·by_cases a2:kn≤57
            ·have e0:((kn:Int)==45)=false:=by simp;omega
             have e1:decide ((kn:Int)≥48)=true:=by simp;omega
             have e3:decide ((48:Int)≤kn)=true:=by simp;omega
             have e2:decide ((kn:Int)≤57)=true:=by simp;omega
             have Ed:Hid (decide (kn=45∨48≤kn∧kn≤57)=true):=by show _=_;simp;omega
             clear a0 a1 a2;go_wp2;go_meet
             case rel=>exact⟨by rw[Ed.out],rfl⟩
            ·have e0:((kn:Int)==45)=false:=by simp;omega
             have e1:decide ((kn:Int)≥48)=true:=by simp;omega
             have e3:decide ((48:Int)≤kn)=true:=by simp;omega
             have e2:decide ((kn:Int)≤57)=false:=by simp;omega
             have Ed:Hid (decide (kn=45∨48≤kn∧kn≤57)=false):=by show _=_;simp;omega
             clear a0 a1 a2;go_wp2;go_meet
             case rel=>exact⟨by rw[Ed.out],rfl⟩
           ·have e0:((kn:Int)==45)=false:=by simp;omega
            have e1:decide ((kn:Int)≥48)=false:=by simp;omega
            have e3:decide ((48:Int)≤kn)=false:=by simp;omega
            have Ed:Hid (decide (kn=45∨48≤kn∧kn≤57)=false):=by show _=_;simp;omega
            clear a0 a1;go_wp2;go_meet
            case rel=>exact⟨by rw[Ed.out],rfl⟩
         case rest =>
          obtain⟨rfl,rfl⟩:=hcut;obtain⟨W,hW⟩:=exE wc;subst hW
          by_cases hw:kn=45∨48≤kn∧kn≤57
          ·have hnt:=Hcd.out.trans (decide_eq_true hw);rw[decide_eq_true hw];clear hw;go_wp2_with fail;go_loopw [6] (fun c6 wi=>∃ m:Nat,c6=O m∧1≤m∧m≤cur.size∧Hid (∀ i (h:i<cur.size),1≤i→i<m→jK cur[i]=true)∧wi=W) (fun c6 _=>cur.size-(intOf c6).toNat)
           case atStart=>exact⟨1,rfl,Nat.le_refl _,by omega,(show ∀ i (h:i<cur.size),1≤i→i<1→jK cur[i]=true from fun i _ h1 h2=>absurd h1 (by omega)),rfl⟩
           case round =>
            obtain⟨m,rfl,hm1,hmz,Hrun,rfl⟩:=hrel;obtain⟨W,hW⟩:=exE wr;subst hW;have hmz':(m:Int)≤cur.size:=by omega
            by_cases hm:m<cur.size
            ·by_cases hcm:48≤cur[m].toNat∧cur[m].toNat≤57
             ·obtain⟨hc1,hc2⟩:=hcm;have hp:jK cur[m]=true:=by unfold jK;simp[hc1,hc2]
              have Hr2:Hid (∀ i (h:i<cur.size),1≤i→i<m+1→jK cur[i]=true):=fun i h h1 h2=>by
               by_cases e:i<m
               ·exact Hrun.out i h h1 e
               ·obtain rfl:i=m:=by omega
                exact hp
              clear hp;go_wp2;go_roundw
              case rel=>exact⟨m+1,by simp,by omega,hm,Hr2,by trivial⟩
              case measure=>go_light;simp[intOf];omega
             ·have hp:jK cur[m]=false:=by unfold jK;exact decide_eq_false hcm
              obtain⟨q1,q2⟩:=Yg (p:=jK) Hl.out hm1 hmz Hrun.out (fun _=>hp);have hsp:spl (bytes cur)=(spl ((bytes cur).drop m)).map (⟨((bytes cur).take m).toArray⟩ :: ·):=by rw[←q1,←q2,Hl.out];exact aeV hwf hsf hlf hnt
              clear q1 q2 hp Hrun
              by_cases hc1:cur[m].toNat<48
              ·clear hcm;obtain⟨wd,hwd⟩:∃ x,cur.extract 0 m=x:=⟨_,rfl⟩;obtain⟨rs,hrs⟩:∃ x,cur.extract m cur.size=x:=⟨_,rfl⟩;have b1:bytes rs=(bytes cur).drop m:=by rw[←hrs,uK]
               have b2:wd=⟨((bytes cur).take m).toArray⟩:=qb (by rw[←hwd,Rm]);have hstep:Hid (spl (bytes s)=(spl (bytes rs)).map ((acc++[wd]) ++ ·)):=by
                show _=_;rw[He.out,hsp,b1,←b2];cases spl ((bytes cur).drop m) with
                | none=>rfl
                | some l=>simp
               have hrz:rs.size<cur.size:=by
                have e1:(bytes rs).length=rs.size:=rfl;have e2:(bytes cur).length=cur.size:=rfl;rw[b1,List.length_drop] at e1;omega
               have Hrz:=hidL hrz;have Hca:=hidL hca;have hOa:=hO.alloc lQ.fair (.cells #[.string wd] 9);have hba:=hb.alloc hb.size (.cells #[.string wd] 9);have hbs:=hb.size;have hbx:Box (W.alloc (.cells #[.string wd] 9)) W.heap.size 9 [.string wd]:=Box.new _ _ _;clear b1 b2 hrz hca hO hb He;go_wp2_with (at_builtin;go_must (refine bv _ rfl (.tmp 93) (.tmp 97) rfl ajk lQ.fair rfl rfl hOa (Src.one (es:=[.string wd]) (y:=wd) rfl (gI.bK rfl) rfl hbx.lies) (NoT.lt _) ?_ ?_ ?_))
               ·have:=Hca.out;try simp
                go_light;omega
               ·try simp
                go_light;omega
               intro v5 w5 ho5 hg5 hv5;have hb5:=below_grown hba hg5 (by (try simp);go_light;omega) (fun g' h=>(hOa.lt h).1);clear hOa hba hg5 hv5;go_wp2;go_roundw
               case rel=>exact⟨rs,acc++[wd],rfl,by have:=Hca.out;have:=Hrz.out;(try simp);omega,hstep,ho5,hb5⟩
               case measure=>exact Hrz.out
              ·have hc2:57<cur[m].toNat:=by omega
               have hc3:48≤cur[m].toNat:=by omega
               clear hcm hc1;obtain⟨wd,hwd⟩:∃ x,cur.extract 0 m=x:=⟨_,rfl⟩;obtain⟨rs,hrs⟩:∃ x,cur.extract m cur.size=x:=⟨_,rfl⟩;have b1:bytes rs=(bytes cur).drop m:=by rw[←hrs,uK]
               have b2:wd=⟨((bytes cur).take m).toArray⟩:=qb (by rw[←hwd,Rm]);have hstep:Hid (spl (bytes s)=(spl (bytes rs)).map ((acc++[wd]) ++ ·)):=by
                show _=_;rw[He.out,hsp,b1,←b2];cases spl ((bytes cur).drop m) with
                | none=>rfl
                | some l=>simp
               have hrz:rs.size<cur.size:=by
                have e1:(bytes rs).length=rs.size:=rfl;have e2:(bytes cur).length=cur.size:=rfl;rw[b1,List.length_drop] at e1;omega
               have Hrz:=hidL hrz;have Hca:=hidL hca;have hOa:=hO.alloc lQ.fair (.cells #[.string wd] 9);have hba:=hb.alloc hb.size (.cells #[.string wd] 9);have hbs:=hb.size;have hbx:Box (W.alloc (.cells #[.string wd] 9)) W.heap.size 9 [.string wd]:=Box.new _ _ _;clear b1 b2 hrz hca hO hb He;go_wp2_with (at_builtin;go_must (refine bv _ rfl (.tmp 93) (.tmp 97) rfl ajk lQ.fair rfl rfl hOa (Src.one (es:=[.string wd]) (y:=wd) rfl (gI.bK rfl) rfl hbx.lies) (NoT.lt _) ?_ ?_ ?_))
               ·have:=Hca.out;try simp
                go_light;omega
               ·try simp
                go_light;omega
               intro v5 w5 ho5 hg5 hv5;have hb5:=below_grown hba hg5 (by (try simp);go_light;omega) (fun g' h=>(hOa.lt h).1);clear hOa hba hg5 hv5;go_wp2;go_roundw
               case rel=>exact⟨rs,acc++[wd],rfl,by have:=Hca.out;have:=Hrz.out;(try simp);omega,hstep,ho5,hb5⟩
               case measure=>exact Hrz.out
            ·obtain⟨q1,q2⟩:=Yg (p:=jK) Hl.out hm1 hmz Hrun.out (fun h=>absurd h hm);have hsp:spl (bytes cur)=(spl ((bytes cur).drop m)).map (⟨((bytes cur).take m).toArray⟩ :: ·):=by rw[←q1,←q2,Hl.out];exact aeV hwf hsf hlf hnt
             clear q1 q2 Hrun;obtain⟨wd,hwd⟩:∃ x,cur.extract 0 m=x:=⟨_,rfl⟩;obtain⟨rs,hrs⟩:∃ x,cur.extract m cur.size=x:=⟨_,rfl⟩;have b1:bytes rs=(bytes cur).drop m:=by rw[←hrs,uK]
             have b2:wd=⟨((bytes cur).take m).toArray⟩:=qb (by rw[←hwd,Rm]);have hstep:Hid (spl (bytes s)=(spl (bytes rs)).map ((acc++[wd]) ++ ·)):=by
              show _=_;rw[He.out,hsp,b1,←b2];cases spl ((bytes cur).drop m) with
              | none=>rfl
              | some l=>simp
             have hrz:rs.size<cur.size:=by
              have e1:(bytes rs).length=rs.size:=rfl;have e2:(bytes cur).length=cur.size:=rfl;rw[b1,List.length_drop] at e1;omega
             have Hrz:=hidL hrz;have Hca:=hidL hca;have hOa:=hO.alloc lQ.fair (.cells #[.string wd] 9);have hba:=hb.alloc hb.size (.cells #[.string wd] 9);have hbs:=hb.size;have hbx:Box (W.alloc (.cells #[.string wd] 9)) W.heap.size 9 [.string wd]:=Box.new _ _ _;clear b1 b2 hrz hca hO hb He;go_wp2_with (at_builtin;go_must (refine bv _ rfl (.tmp 93) (.tmp 97) rfl ajk lQ.fair rfl rfl hOa (Src.one (es:=[.string wd]) (y:=wd) rfl (gI.bK rfl) rfl hbx.lies) (NoT.lt _) ?_ ?_ ?_))
             ·have:=Hca.out;try simp
              go_light;omega
             ·try simp
              go_light;omega
             intro v5 w5 ho5 hg5 hv5;have hb5:=below_grown hba hg5 (by (try simp);go_light;omega) (fun g' h=>(hOa.lt h).1);clear hOa hba hg5 hv5;go_wp2;go_roundw
             case rel=>exact⟨rs,acc++[wd],rfl,by have:=Hca.out;have:=Hrz.out;(try simp);omega,hstep,ho5,hb5⟩
             case measure=>exact Hrz.out
          ·have hnf:=Hcd.out.trans (decide_eq_false hw);rw[decide_eq_false hw];clear hw;have Hr2:Hid (r=none):=by show _=_;rw[Hr.out,He.out,Hl.out,ajl hwf hsf hlf hnf];rfl
           clear hwf hsf hlf hnf;go_wp2_with fail
           go_ret2
           exact⟨_,by rw[Hr2.out];rfl,by rw[Hr2.out];exact RSl.dJ,hb⟩
  ·have hx0:cur=⟨#[]⟩:=by
    have hl0:(bytes cur).length=0:=by show cur.size=0;omega
    exact qb (List.eq_nil_of_length_eq_zero hl0)
   subst hx0;have Hr2:Hid (r=some acc):=by
    show _=_;rw[Hr.out,He.out];show (spl []).map _=_;rw[show spl []=some [] from rfl];simp
   have HO:=hidL (hO.read (by_:=16) (S:=fun y=>w.heap.size≤y) lQ.fair (fun _ h=>h.elim) (fun k hk=>(hO.lt hk).1) (by omega));clear h0;go_wp2_with fail
   go_ret2
   exact⟨_,by rw[Hr2.out];rfl,by rw[Hr2.out];exact HO.out,hb⟩
def wO (w:World):Prop:=Lib.TabIs prog w "internal/strconv.uint64pow10" .u64 Lib.pow10Tab ∧
 (∃ ev,w.cell? ⟨5,0,none⟩=some ev∧(ev=.nilIface∨∃ te pe,ev=.iface te pe))∧(∃ ev,w.cell? ⟨6,0,none⟩=some ev∧(ev=.nilIface∨∃ te pe,ev=.iface te pe))
theorem wO.below {w w':World}(h:wO w)(hb:Below w.heap.size w w'):wO w':=by
 obtain⟨h1,⟨e1,h2,h3⟩,⟨e2,h4,h5⟩⟩:=h;refine⟨Lib.tabBelow_of_tabIs h1 w' hb,⟨e1,?_,h3⟩,⟨e2,?_,h5⟩⟩
 ·rw[World.cell?_of_block (w:=w) (hb.block _ (World.block_lt_of_cell? w _ h2))];exact h2
 ·rw[World.cell?_of_block (w:=w) (hb.block _ (World.block_lt_of_cell? w _ h4))];exact h4
theorem Mr (S:Nat→Prop)(g:Nat)(r:Rd)(B w:World)(h:Rdr S w g r)(hS:¬ S g)(hz:r.next.1.size≤4000)(hN:wO B)(hB:Below B.heap.size B w)(hg:B.heap.size≤g):Calls prog 64 #[.pointer (some ⟨g,0,none⟩)] w (aen S w g (O r.number.1) r.number.2):=by
 have hn:=hidL (ER S g r w h hS);obtain⟨x,hx⟩:=exE r.next.1;obtain⟨r2,hr2⟩:=exE r.next.2;have Ht:Hid (r.number=match Rq x with | some n=>(n,r2) | none=>(0,⟨r2.l,true⟩)):=by show _=_;rw[hx,hr2];rfl
 rw[←hx,←hr2] at hn;rw[←hx] at hz;obtain⟨rn,hrn⟩:=exE r.number;rw[←hrn] at Ht ⊢;have HS:=hidL hS;have HN:=hidL (fun w1 (hg1:w.grownBy w1 (some g))=>hN.below (below_grown hB hg1 hB.size (fun g' e=>by injection e with e;omega)));clear h hx hr2 hS hrn hN hB hg;go_enter func64,ntmps64;go_wp2_with fail;refine hn.out.mono ?_;rintro e w1 ⟨rfl,h1,hg⟩;obtain⟨ht,⟨ev1,hv1,he1⟩,⟨ev2,hv2,he2⟩⟩:=HN.out w1 hg;have HT:=hidL ht;have H1:=hidL h1;clear ht h1 hn HN;go_wp2_with fail;rcases hat:Lib.atoiAll (bytes x) with v | _ | _
 ·skip
  obtain⟨b1,b2⟩:=Lib.atoiAll_bounds hat;refine(Tryz.strconv_Atoi_ok x (by omega) v hat w1).mono ?_;rintro e w2 ⟨rfl,hw2⟩;have hb2:Below w1.heap.size w1 w2:=by
   rcases hw2 with rfl | ⟨t,rfl⟩
   ·exact Below.refl _ _
   ·exact Lib.bytesWorld_below _ _ _
  have HT2:=hidL (Lib.tabBelow_of_tabIs HT.out w2 hb2);have Hnw:Hid (Rq x=if Lib.itoa v=bytes x ∧ -1099511627776≤v∧v≤1099511627776 then some v else none):=by show _=_;unfold Rq;rw[hat]
  clear hw2 hv1 he1 hv2 he2 hat;go_wp2_with fail;refine(Tryz.strconv_Itoa v b1 b2 w2 HT2.out).mono ?_;rintro e w3 ⟨rfl,k,os,rfl⟩;obtain⟨sv,hsv⟩:=exE (⟨(Lib.itoa v).toArray⟩:ByteArray);rw[←hsv];have hb3:=aa hb2 (Lib.below_grow w2.heap.size w2 (Nat.le_refl _) k os) hb2.size;generalize Sort.grow (w2.drewN k) os=w3 at hb3 ⊢;have hr3:=H1.out.below hb3;have hg3:=aF hg (aK hb3 (some g)) (.inl rfl);have HR:=hidL hr3;have HRb:=hidL (hr3.gB HS.out true);have hgb:=aF hg3 (sM (g:=g) (i:=1) (.bool true)) (.inl rfl);obtain⟨vv,hbx,-⟩:=hr3;have c1:LL w3 g 1 (.bool r2.bad):=hbx.cell 1;have f1:=hbx.frozen 1;have hl:=hbx.lt;clear hbx hb3 hb2 hg HT2 HT H1
  by_cases hi:Lib.itoa v=bytes x
  ·have hxe:sv=x:=by
    rw[hsv,hi]
   have e0:(!(sv.toList==x.toList))=false:=by rw[hxe];simp
   clear hsv
   by_cases hv1:v < -1099511627776
   ·have Hn:Hid (rn=(0,⟨r2.l,true⟩)):=by show _=_;rw[Ht.out,Hnw.out,if_neg (by omega)]
    clear hi hxe;go_wp2;go_ret;exact⟨by rw[Hn.out];rfl,by rw[Hn.out];exact HRb.out,hgb⟩
   ·by_cases hv2:1099511627776<v
    ·have Hn:Hid (rn=(0,⟨r2.l,true⟩)):=by show _=_;rw[Ht.out,Hnw.out,if_neg (by omega)]
     clear hi hxe;go_wp2;go_ret;exact⟨by rw[Hn.out];rfl,by rw[Hn.out];exact HRb.out,hgb⟩
    ·have Hn:Hid (rn=(v,r2)):=by show _=_;rw[Ht.out,Hnw.out,if_pos ⟨hi,by omega,by omega⟩]
     have hv3:v≤1099511627776:=by omega
     have hv4 : -1099511627776≤v:=by omega
     clear hi hxe;go_wp2;go_ret;exact⟨by rw[Hn.out];rfl,by rw[Hn.out];exact HR.out,hg3⟩
  ·have e0:(!(sv.toList==x.toList))=true:=by
    rw[ba_eq];simp only[Bool.not_eq_true',decide_eq_false_iff_not];intro e;exact hi (by rw[←e,hsv])
   clear hsv;have Hn:Hid (rn=(0,⟨r2.l,true⟩)):=by show _=_;rw[Ht.out,Hnw.out,if_neg (fun h=>hi h.1)]
   clear hi;go_wp2;go_ret;exact⟨by rw[Hn.out];rfl,by rw[Hn.out];exact HRb.out,hgb⟩
 ·skip
  have Hn:Hid (rn=(0,⟨r2.l,true⟩)):=by show _=_;rw[Ht.out];unfold Rq;rw[hat]
  refine(Tryz.strconv_Atoi_syntax x (by omega) hat ev1 w1 hv1 he1).mono ?_;rintro e w2 ⟨N,rfl,_,_,hb2⟩;have hr3:=H1.out.below hb2;have hg3:=aF hg (aK hb2 (some g)) (.inl rfl);have HRb:=hidL (hr3.gB HS.out true);have hgb:=aF hg3 (sM (g:=g) (i:=1) (.bool true)) (.inl rfl);obtain⟨vv,hbx,-⟩:=hr3;have c1:LL w2 g 1 (.bool r2.bad):=hbx.cell 1;have f1:=hbx.frozen 1;have hl:=hbx.lt;clear hbx hb2 hg HT H1 hat hv1 he1 hv2 he2;go_wp2;go_ret;exact⟨by rw[Hn.out];rfl,by rw[Hn.out];exact HRb.out,hgb⟩
 ·skip
  have Hn:Hid (rn=(0,⟨r2.l,true⟩)):=by show _=_;rw[Ht.out];unfold Rq;rw[hat]
  refine(Tryz.strconv_Atoi_range x (by omega) hat ev2 w1 hv2 he2).mono ?_;rintro e w2 ⟨N,rfl,_,_,hb2⟩;have hr3:=H1.out.below hb2;have hg3:=aF hg (aK hb2 (some g)) (.inl rfl);have HRb:=hidL (hr3.gB HS.out true);have hgb:=aF hg3 (sM (g:=g) (i:=1) (.bool true)) (.inl rfl);obtain⟨vv,hbx,-⟩:=hr3;have c1:LL w2 g 1 (.bool r2.bad):=hbx.cell 1;have f1:=hbx.frozen 1;have hl:=hbx.lt;clear hbx hb2 hg HT H1 hat hv1 he1 hv2 he2;go_wp2;go_ret;exact⟨by rw[Hn.out];rfl,by rw[Hn.out];exact HRb.out,hgb⟩
theorem agz:dK prog 51 57 2 24:=dK.mk (z:=.agg #[.string .empty,O 0]) underlying51 (by decide) (by decide) (by kernel_rfl) rfl
def Small (r:Rd):Prop:=r.l.length≤4000∧∀ x∈r.l,x.size≤4000
theorem Small.next {r:Rd}(h:Small r):Small r.next.2∧r.next.1.size≤4000:=by
 obtain⟨l,b⟩:=r;cases l with
 | nil=>exact⟨⟨Nat.zero_le _,fun x hx=>by cases hx⟩,Nat.zero_le _⟩
 | cons x l=>exact⟨⟨by have:=h.1;simp at this;show l.length≤4000;omega,fun y hy=>h.2 y (List.mem_cons_of_mem _ hy)⟩,h.2 x (List.mem_cons_self ..)⟩
theorem Small.told {r:Rd}(h:Small r)(b:Bool):Small ⟨r.l,b⟩:=h
theorem Small.word {r:Rd}(h:Small r):Small r.word.2:=by
 unfold Rd.word;dsimp only;split
 ·exact h.next.1
 ·exact h.next.1.told true
theorem Small.take {r:Rd}(h:Small r)(s:ByteArray):Small (r.take s):=by
 unfold Rd.take;split
 ·exact h.next.1
 ·exact h.next.1.told true
theorem Small.number {r:Rd}(h:Small r):Small r.number.2:=by
 unfold Rd.number;split
 ·exact h.next.1
 ·exact h.next.1.told true
def rdM (r:Rd):Nat:=if r.bad then 0 else r.l.length+1
theorem Ae (r:Rd):rdM r.next.2≤rdM r:=by
 obtain⟨l,b⟩:=r;cases l with
 | nil=>exact Nat.zero_le _
 | cons x l=>cases b with
  | true=>exact Nat.le_refl _
  | false=>show l.length+1≤(x::l).length+1;simp
theorem sW {r:Rd}(h:r.bad=false):rdM r.next.2<rdM r:=by
 obtain⟨l,b⟩:=r;cases h;cases l with
 | nil=>exact Nat.zero_lt_succ _
 | cons x l=>show l.length+1<(x::l).length+1;simp
theorem vD (r:Rd):rdM r.word.2≤rdM r:=by
 unfold Rd.word;dsimp only;split
 ·exact Ae r
 ·exact Nat.zero_le _
theorem lD (r:Rd)(s:ByteArray):rdM (r.take s)≤rdM r:=by
 unfold Rd.take;split
 ·exact Ae r
 ·exact Nat.zero_le _
theorem oH {r:Rd}(h:r.bad=false):rdM r.number.2<rdM r:=by
 have:=sW h;unfold Rd.number;split
 ·exact this
 ·show 0<rdM r;omega
theorem FT (r:Rd) : -1099511627776≤r.number.1∧r.number.1≤1099511627776:=by
 unfold Rd.number;cases hn:Rq r.next.1 with
 | none=>exact(show (-1099511627776:Int)≤0∧(0:Int)≤1099511627776 by decide)
 | some n =>
  unfold Rq at hn;split at hn
  ·split at hn
   ·next h=>injection hn with hn;subst hn;exact h.2
   ·cases hn
  ·cases hn
theorem ajY (r:Rd){x:ByteArray}(hx:x.size≤4000):jw ⟨x,r.number.1⟩:=⟨(FT r).1,(FT r).2,hx⟩
theorem acl {r:Rd}{k:Nat}(acc:List dC)(h1:r.bad=false)(h2:r.at_ il=false)(h3:rdM r≤k):∃ k',rdM (r.number.2.word.2.take ku)≤k'∧nP k r acc=nP k' (r.number.2.word.2.take ku) (acc++[⟨r.number.2.word.1,r.number.1⟩]):=by
 have a:=oH h1;have b:=vD r.number.2;have c:=lD r.number.2.word.2 ku;cases k with
 | zero=>omega
 | succ k=>exact⟨k,by omega,by rw[nP,if_pos ⟨h1,h2⟩]⟩
theorem Ph {r:Rd}(k:Nat)(acc:List dC)(h:¬ (r.bad=false∧r.at_ il=false)):nP k r acc=(acc,r):=by
 cases k with
 | zero=>rfl
 | succ k=>rw[nP,if_neg h]
def Ll (w:World)(g:Nat):Nat:=match w.cell? ⟨g,0,none⟩,w.cell? ⟨g,1,none⟩ with
 | some (.slice _ n _),some (.bool b)=>if b then 0 else n+1
 | _,_=>0
theorem Rdr.m {S:Nat→Prop}{w:World}{g:Nat}{r:Rd}(h:Rdr S w g r):Ll w g=rdM r:=by
 obtain⟨v,h1,h2⟩:=h;obtain⟨A,cap,rfl,hc,hb⟩:=h2.form;have c0:LL w g 0 (.slice A r.l.length cap):=h1.cell 0;have c1:LL w g 1 (.bool r.bad):=h1.cell 1;unfold Ll;rw[c0,c1];rfl
def aeP (S:Nat→Prop)(w:World)(g:Nat)(p:ax × Rd)(e:Ending)(w':World):Prop :=
 ∃ vf vg vi t,e=.returned (.agg #[.string t.name,.bool t.enum,vf,vg,vi])∧Own w.heap.size 55 5 aH NoT w' vf t.fields∧RSl 1 8 aQ (fun y=>w.heap.size≤y∧vf.ownBlock≠some y) w' [vg] t.gone∧RSl 2 24 aO (fun y=>w.heap.size≤y∧vf.ownBlock≠some y) w' [vi] t.items∧SG t p.1∧Rdr S w' g p.2∧w.grownBy w' (some g)
theorem Rdr.grown {S:Nat→Prop}{w w':World}{g:Nat}{r:Rd}(h:Rdr S w g r){row:Option Nat}(hg:w.grownBy w' row)(hr:∀ k,row=some k→¬ S k∧k≠g):Rdr S w' g r :=
 h.keep (az.bH hg (fun k e hk=>hk.elim (hr k e).1 (hr k e).2))
theorem wY {a:World}{row:Option Nat}{g:Nat}(hg:a.heap.size≤g):∀ (vs:List Value) (i:Nat) (w:World),a.grownBy w row→a.grownBy (Go.Proofs.YtknnhpkjgnkcdaaGreatDoor.setCells w g i vs) row
 | [],_,_,h=>h
 | v::vs,i,w,h=>wY hg vs (i+1) _ (iV h (.inr hg) v)
theorem WN {W:World}{a:Act}{g:Nat}{c0 c1 c2 c3 c4:Value}(hb:Box W g 53 [c0,c1,c2,c3,c4])(h4:a.tmps.getD 2 undef=.pointer (some ⟨g,0,none⟩)) :
  (results f32 a.tmps).run prog W=.ok (.agg #[c0,c1,c2,c3,c4]) W:=by
 obtain⟨e0,e1,e2,e3,e4⟩:=hb.five;simp only[Array.getD_eq_getD_getElem?] at h4;simp[results,results32,go_sem,h4,e0,e1,e2,e3,e4]
theorem aht (S:Nat→Prop)(g:Nat)(r:Rd)(B w:World)(h:Rdr S w g r)(hS:¬ S g)(hSw:∀ k,S k→k<w.heap.size)(hz:Small r)(hN:wO B)(hB:Below B.heap.size B w)(hg:B.heap.size≤g):Calls prog 32 #[.pointer (some ⟨g,0,none⟩)] w (aeP S w g (vS r)):=by
 have hgw:=h.lt;obtain⟨r1,hr1⟩:=exE r.word.2;obtain⟨nm,hnm⟩:=exE r.word.1;have Hnz:Hid (nm.size≤4000):=by show nm.size≤4000;rw[hnm];exact hz.next.2
 obtain⟨r2,hr2⟩:=exE (r1.take mP);obtain⟨er,her⟩:=exE (vS r);have Her:Hid (er=(⟨nm,true,[],[],bL nO (nP (r2.l.length+2) r2 []).1⟩,(nP (r2.l.length+2) r2 []).2.take il)):=by show _=_;rw[her,hr2,hr1,hnm];rfl
 rw[←her];have Hs2:Hid (Small r2):=by show Small r2;rw[hr2,hr1];exact hz.word.take _
 have hword:=hidL (fun W (hW:Rdr S W g r)=>JN S g r W hW hS (by have:=hz.next.2;omega));have htake:=hidL (fun (q:Rd) (s:ByteArray) W (hW:Rdr S W g q)=>Ze S g q s W hW hS);have hnum:=hidL (fun (q:Rd) W (hW:Rdr S W g q) (hs:Small q) (hg':w.grownBy W (some g))=>Mr S g q B W hW hS hs.next.2 hN (below_grown hB hg' hB.size (fun g' e=>by injection e with e;omega)) hg);have hwrd:=hidL (fun (q:Rd) W (hW:Rdr S W g q) (hs:Small q)=>JN S g q W hW hS (by have:=hs.next.2;omega));have HS:=hidL hS;have HSw:=hidL hSw;rw[←hr1,←hnm] at hword;have Hr2:=hidL hr2;have hR0:=h.keep (az.alloc _ w (.cells [E0,.bool false,Z0,Z0,Z0].toArray 53));have hZ0:=Box.new w 53 [E0,.bool false,Z0,Z0,Z0];have hG0:=jC (row:=some g) (aK (Below.refl w.heap.size w) (some g)) (.cells [E0,.bool false,Z0,Z0,Z0].toArray 53);clear h hS hSw hz hN hB hg hr1 hnm her hr2;go_enter func32,ntmps32;go_wp2_with fail;generalize (World.alloc w (.cells _ _))=w0 at hR0 hZ0 hG0 ⊢;refine(hword.out _ hR0).mono ?_;rintro e w1 ⟨rfl,h1,hg1⟩;go_wp2_with fail;have hR1:=h1.keep (az.alloc _ w1 (.cells [.string nm,.bool true,Z0,Z0,Z0].toArray 53));have hX1:=Box.new w1 53 [.string nm,.bool true,Z0,Z0,Z0];have hZ1:=(hZ0.grown hg1 (by intro e;injection e with e;omega)).alloc (.cells [.string nm,.bool true,Z0,Z0,Z0].toArray 53);have hG1:=jC (aF hG0 hg1 (.inl rfl)) (.cells [.string nm,.bool true,Z0,Z0,Z0].toArray 53);have hzx:w.heap.size<w1.heap.size:=by have:=hZ0.lt;have:=hg1.size;omega
 generalize w1.heap.size=X at hX1 hzx ⊢;generalize (World.alloc w1 (.cells _ _))=w2 at hR1 hX1 hZ1 hG1 ⊢;refine(htake.out _ _ _ hR1).mono ?_;rintro e w3 ⟨rfl,h3,hg3⟩;replace h3:Rdr S w3 g r2:=by rw[Hr2.out];exact h3
 have hX3:=hX1.grown hg3 (by intro e;injection e with e;omega);have hZ3:=hZ1.grown hg3 (by intro e;injection e with e;omega);have hG3:=aF hG1 hg3 (.inl rfl);clear hR1 hX1 hZ1 hG1 hg3 hR0 hZ0 hG0 hg1 h1;go_wp2_with fail;go_loopw [] (fun wr=>∃ (q:Rd) (acc:List dC) (v:Value) (k:Nat),Rdr S wr g q∧Box wr X 53 [.string nm,.bool true,Z0,Z0,v]∧Box wr w.heap.size 53 [E0,.bool false,Z0,Z0,Z0]∧Own w.heap.size 57 2 aO NoT wr v acc∧w.grownBy wr (some g)∧Hid (Small q∧rdM q≤k∧acc.length+rdM q≤4001∧(∀ x∈acc,jw x)∧nP (r2.l.length+2) r2 []=nP k q acc)) (fun wr=>Ll wr g)
 case atStart=>exact⟨r2,[],_,r2.l.length+2,h3,hX3,hZ3,Own.dJ _ _ _ _ _ _,hG3,(show _∧_ from⟨Hs2.out,by unfold rdM;split <;> omega,by have:=Hs2.out.1;unfold rdM;simp;split <;> omega,(fun x hx=>by cases hx),rfl⟩)⟩
 case round =>
  clear h3 hX3 hZ3 hG3;obtain⟨q,acc,v,k,hR,hX,hZ,hO,hG,HI⟩:=hrel;have hat:=hidL (XE S g q il wr hR);have hM:=hidL hR.m;obtain⟨uv,hbx,-⟩:=hidL hR |>.out
  have c1:LL wr g 1 (.bool q.bad):=hbx.cell 1;have hl:=hbx.lt;clear hbx
  by_cases hbad:q.bad=true
  ·--[BAD
   have Hst:Hid (nP k q acc=(acc,q)):=by show _=_;exact Ph k acc (by rw[hbad];simp)
   rw[hbad] at c1;clear hbad;go_wp2_with fail;refine(htake.out q il wr hR).mono ?_;rintro e w4 ⟨rfl,h4,hg4⟩;have hne4:v.ownBlock≠some g:=fun e=>by have:=(hO.lt e).1;omega
   have hX4:=hX.grown hg4 (by intro e;injection e with e;omega);have hZ4:=hZ.grown hg4 (by intro e;injection e with e;omega);have hO4:=hO.kept aO.fair hg4 (.inr hne4) (fun _ _ h=>h);have hG4:=aF hG hg4 (.inl rfl);have c44:=hX4.cell 4;have lX4:=hX4.lt;clear hR hX hZ hO hG hne4;go_wp2_with fail;refine(xW _ _ v acc w4 hO4 (by have:=HI.out.2.2.1;omega) HI.out.2.2.2.1).mono ?_;rintro e w5 ⟨rfl,ys,hyl,hyq,hO5,hg5,hys⟩;have hX5:=hX4.grown hg5 (hX4.gV hO4 (by decide));have hZ5:=hZ4.grown hg5 (hZ4.gV hO4 (by decide));have hG5:=aF hG4 hg5 (.inr (fun k e=>(hO4.lt e).1));have h5:=h4.grown hg5 (fun k e=>by have:=(hO4.lt e).1;exact⟨fun hk=>by have:=HSw.out k hk;omega,by omega⟩);have hnZ:¬ (S w.heap.size∨w.heap.size=g):=fun h=>h.elim (fun h=>by have:=HSw.out _ h;omega) (fun h=>by omega)
   have HR:=hidL (h5.keep (az.setCells hnZ [.string nm,.bool true,Z0,Z0,v] 0 w5));have HG:=hidL (wY (Nat.le_refl w.heap.size) [.string nm,.bool true,Z0,Z0,v] 0 w5 hG5);have HZ:=hidL (hZ5.setCells [.string nm,.bool true,Z0,Z0,v] rfl);have HI5:=hidL ((RSl.fair aO.fair).mono ((RSl.fair aO.fair).keep (hO5.read (S:=fun y=>w.heap.size≤y∧y≠w.heap.size) (by_:=24) aO.fair (fun _ h _=>h.elim) (fun k e=>⟨(hO5.lt e).1,fun h=>hZ5.gV hO5 (by decide) (by rw[e,h])⟩) (by have:=HI.out.2.2.1;omega)) (az.setCells (fun h=>h.2 rfl) [.string nm,.bool true,Z0,Z0,v] 0 w5)) (T:=fun y=>w.heap.size≤y∧(Z0).ownBlock≠some y) (fun y h _=>⟨h.1,by simp[Value.ownBlock]⟩));have Hys:=hidL hys;have Hyl:=hidL hyl;obtain⟨Av,cv,hv,-⟩:=hO5.form;subst hv;obtain⟨c0,c1,c2,c3,c4⟩:=hX5.five;obtain⟨d0,d1,d2,d3,d4⟩:=hZ5.five;have f0:=hZ5.frozen 0;have f1:=hZ5.frozen 1;have f2:=hZ5.frozen 2;have f3:=hZ5.frozen 3;have f4:=hZ5.frozen 4;have lX:=hX5.lt;have lZ:=hZ5.lt;have Hyq:=hidL hyq;clear hX4 hX5 hZ4 hZ5 hG4 hG5 hO4 hO5 h4 h5 hnZ hg4 hg5 hyq hys hyl c44 lX4;go_wp2_with fail;change bodyPost _ _ _ _ _ (Go.Proofs.YtknnhpkjgnkcdaaGreatDoor.setCells w5 w.heap.size 0 [.string nm,.bool true,Z0,Z0,Value.slice Av ys.length cv]);refine bodyPost_ret (WN HZ.out rfl) rfl ?_;have Hr5:=HI.out.2.2.2.2;rw[Hst.out] at Hr5;refine⟨_,_,_,⟨nm,true,[],[],ys⟩,rfl,Own.dJ _ _ _ _ _ _,RSl.dJ,HI5.out,?_,?_,HG.out⟩
   ·rw[Her.out,Hr5];exact⟨rfl,rfl,rfl,fun _=>rfl,rfl,by show ys.length=(bL nO acc).length;rw[Hyl.out,nu],fun h=>Hys.out (by have h':(bL nO acc).length<20:=h;rwa [nu] at h'),⟨Hnz.out,Nat.zero_le _,fun x hx=>(by cases hx),fun x hx=>(Hyq.out x hx).2.2⟩⟩
   ·rw[Her.out,Hr5];exact HR.out
  ·have hbad:q.bad=false:=by simpa using hbad
   have Hbad:=hidL hbad;rw[hbad] at c1;clear hbad;go_upto_region 5 with fail;refine hat.out.mono ?_;rintro e w3 ⟨rfl,hb3⟩;have hR3:=hR.below hb3;have hX3:=hX.below hb3 hX.lt;have hZ3:=hZ.below hb3 hZ.lt;have hO3:=hO.below aO.fair hb3;have hG3:=aF hG (aK hb3 (some g)) (.inl rfl);clear hR hX hZ hO hG hb3 c1 hl hat;cases hq:q.at_ il with
   | true =>
    have Hst:Hid (nP k q acc=(acc,q)):=by show _=_;exact Ph k acc (by rw[hq];simp)
    clear hq;go_wp2_with fail;refine(htake.out q il w3 hR3).mono ?_;rintro e w4 ⟨rfl,h4,hg4⟩;have hne4:v.ownBlock≠some g:=fun e=>by have:=(hO3.lt e).1;omega
    have hX4:=hX3.grown hg4 (by intro e;injection e with e;omega);have hZ4:=hZ3.grown hg4 (by intro e;injection e with e;omega);have hO4:=hO3.kept aO.fair hg4 (.inr hne4) (fun _ _ h=>h);have hG4:=aF hG3 hg4 (.inl rfl);have c44:=hX4.cell 4;have lX4:=hX4.lt;clear hR3 hX3 hZ3 hO3 hG3 hne4;go_wp2_with fail;refine(xW _ _ v acc w4 hO4 (by have:=HI.out.2.2.1;omega) HI.out.2.2.2.1).mono ?_;rintro e w5 ⟨rfl,ys,hyl,hyq,hO5,hg5,hys⟩;have hX5:=hX4.grown hg5 (hX4.gV hO4 (by decide));have hZ5:=hZ4.grown hg5 (hZ4.gV hO4 (by decide));have hG5:=aF hG4 hg5 (.inr (fun k e=>(hO4.lt e).1));have h5:=h4.grown hg5 (fun k e=>by have:=(hO4.lt e).1;exact⟨fun hk=>by have:=HSw.out k hk;omega,by omega⟩);have hnZ:¬ (S w.heap.size∨w.heap.size=g):=fun h=>h.elim (fun h=>by have:=HSw.out _ h;omega) (fun h=>by omega)
    have HR:=hidL (h5.keep (az.setCells hnZ [.string nm,.bool true,Z0,Z0,v] 0 w5));have HG:=hidL (wY (Nat.le_refl w.heap.size) [.string nm,.bool true,Z0,Z0,v] 0 w5 hG5);have HZ:=hidL (hZ5.setCells [.string nm,.bool true,Z0,Z0,v] rfl);have HI5:=hidL ((RSl.fair aO.fair).mono ((RSl.fair aO.fair).keep (hO5.read (S:=fun y=>w.heap.size≤y∧y≠w.heap.size) (by_:=24) aO.fair (fun _ h _=>h.elim) (fun k e=>⟨(hO5.lt e).1,fun h=>hZ5.gV hO5 (by decide) (by rw[e,h])⟩) (by have:=HI.out.2.2.1;omega)) (az.setCells (fun h=>h.2 rfl) [.string nm,.bool true,Z0,Z0,v] 0 w5)) (T:=fun y=>w.heap.size≤y∧(Z0).ownBlock≠some y) (fun y h _=>⟨h.1,by simp[Value.ownBlock]⟩));have Hys:=hidL hys;have Hyl:=hidL hyl;obtain⟨Av,cv,hv,-⟩:=hO5.form;subst hv;obtain⟨c0,c1,c2,c3,c4⟩:=hX5.five;obtain⟨d0,d1,d2,d3,d4⟩:=hZ5.five;have f0:=hZ5.frozen 0;have f1:=hZ5.frozen 1;have f2:=hZ5.frozen 2;have f3:=hZ5.frozen 3;have f4:=hZ5.frozen 4;have lX:=hX5.lt;have lZ:=hZ5.lt;have Hyq:=hidL hyq;clear hX4 hX5 hZ4 hZ5 hG4 hG5 hO4 hO5 h4 h5 hnZ hg4 hg5 hyq hys hyl c44 lX4;go_wp2_with fail;change bodyPost _ _ _ _ _ (Go.Proofs.YtknnhpkjgnkcdaaGreatDoor.setCells w5 w.heap.size 0 [.string nm,.bool true,Z0,Z0,Value.slice Av ys.length cv]);refine bodyPost_ret (WN HZ.out rfl) rfl ?_;have Hr5:=HI.out.2.2.2.2;rw[Hst.out] at Hr5;refine⟨_,_,_,⟨nm,true,[],[],ys⟩,rfl,Own.dJ _ _ _ _ _ _,RSl.dJ,HI5.out,?_,?_,HG.out⟩
    ·rw[Her.out,Hr5];exact⟨rfl,rfl,rfl,fun _=>rfl,rfl,by show ys.length=(bL nO acc).length;rw[Hyl.out,nu],fun h=>Hys.out (by have h':(bL nO acc).length<20:=h;rwa [nu] at h'),⟨Hnz.out,Nat.zero_le _,fun x hx=>(by cases hx),fun x hx=>(Hyq.out x hx).2.2⟩⟩
    ·rw[Her.out,Hr5];exact HR.out
   | false =>
    have Hq:=hidL hq;clear hq;go_upto_region 5 with fail;have hRd:=hR3.keep (az.drew _ _);have hXd:=hX3.drew;have hZd:=hZ3.drew;have hOd:=hO3.drew aO.fair;have hGd:=qx hG3;have hS:(fun W'=>LL W' X 4 v) w3.drew:=hX3.drew.cell 4;refine aJ (fun W'=>LL W' X 4 v) (fun i=>i != 10) (by kernel_rfl) ?_;clear hR3 hX3 hZ3 hO3 hG3;generalize w3.drew=Wd at hRd hXd hZd hOd hGd hS ⊢;apply ppP 0;apply tkP 1 hS;apply ppP 2;apply ppP 4
    try simp only[pu]
    refine ang 3 (fun K hK=>?_);go_simp;refine(hnum.out q Wd hRd HI.out.1 hGd).mono ?_;rintro e w5 ⟨rfl,h5,hg5⟩;have hne5:v.ownBlock≠some g:=fun e=>by have:=(hOd.lt e).1;omega
    have hX5:=hXd.grown hg5 (by intro e;injection e with e;omega);have hZ5:=hZd.grown hg5 (by intro e;injection e with e;omega);have hO5:=hOd.kept aO.fair hg5 (.inr hne5) (fun _ _ h=>h);have hG5:=aF hGd hg5 (.inl rfl);replace hS:(fun W'=>LL W' X 4 v) w5:=hX5.cell 4;clear hXd hZd hOd hGd hg5 hRd;refine hK.out _ _ (fun _ _=>hS) ?_
    try simp only[pu]
    refine ang 5 (fun K hK=>?_);go_simp;refine(hwrd.out q.number.2 w5 h5 HI.out.1.number).mono ?_;rintro e w6 ⟨rfl,h6,hg6⟩;have hX6:=hX5.grown hg6 (by intro e;injection e with e;omega);have hZ6:=hZ5.grown hg6 (by intro e;injection e with e;omega);have hO6:=hO5.kept aO.fair hg6 (.inr hne5) (fun _ _ h=>h);have hG6:=aF hG5 hg6 (.inl rfl);replace hS:(fun W'=>LL W' X 4 v) w6:=hX6.cell 4;clear hX5 hZ5 hO5 hG5 hg6 h5;refine hK.out _ _ (fun _ _=>hS) ?_
    try simp only[pu]
    apply ppP 6
    try simp only[pu]
    refine ang 7 (fun K hK=>?_);go_simp;have h7:=h6.keep (az.alloc _ w6 (.cells #[.string q.number.2.word.1,O q.number.1] 57));have hB7:=Box.new w6 57 [.string q.number.2.word.1,O q.number.1];have hX7:=hX6.alloc (.cells #[.string q.number.2.word.1,O q.number.1] 57);have hZ7:=hZ6.alloc (.cells #[.string q.number.2.word.1,O q.number.1] 57);have hO7:=hO6.alloc aO.fair (.cells #[.string q.number.2.word.1,O q.number.1] 57);have hG7:=jC hG6 (.cells #[.string q.number.2.word.1,O q.number.1] 57);replace hS:(fun W'=>LL W' X 4 v) (w6.alloc (.cells #[.string q.number.2.word.1,O q.number.1] 57)):=hX7.cell 4;clear hX6 hZ6 hO6 hG6 h6;refine hK.out _ _ (fun _ _=>hS) ?_
    try simp only[pu]
    refine ang 8 (fun K hK=>?_);obtain⟨A7,c7,hv7,-⟩:=hO7.form;refine dM _ rfl (.tmp 22) (.tmp 28) rfl agz aO.fair rfl rfl hO7 (Src.one (es:=[.string q.number.2.word.1,O q.number.1]) (y:=dC.mk q.number.2.word.1 q.number.1) rfl (gI.bK rfl) rfl hB7.lies) (NoT.lt _) (by have:=HI.out.2.2.1;simp;omega) hG7.size ?_;intro v8 w8 hO8 hg8 hv8;clear hv8;obtain⟨A8,c8,hv8,-⟩:=hO8.form;subst hv8;generalize (acc++[dC.mk q.number.2.word.1 q.number.1]).length=n8 at hO8 ⊢;have h8:=h7.grown hg8 (fun k e=>by have:=(hO7.lt e).1;exact⟨fun hk=>by have:=HSw.out k hk;omega,by omega⟩);have hX8:=hX7.grown hg8 (hX7.gV hO7 (by decide));have hZ8:=hZ7.grown hg8 (hZ7.gV hO7 (by decide));have hG8:=aF hG7 hg8 (.inr (fun k e=>(hO7.lt e).1));replace hS:(fun W'=>LL W' X 4 v) w8:=hX8.cell 4;clear hX7 hZ7 hO7 hG7 hg8 h7 hB7 hv7 hne5;refine hK.out _ _ (fun _ _=>hS) ?_
    try simp only[pu]
    apply ppP 9
    try simp only[pu]
    have f4:=hX8.frozen 4;have c4:=hX8.cell 4;have lX:=hX8.lt;have hnX:¬ (S X∨X=g):=fun h=>h.elim (fun h=>by have:=HSw.out X h;omega) (fun h=>by omega)
    have h9:=h8.keep (az.setCell w8 (a:=⟨X,4,none⟩) (Value.slice A8 n8 c8) hnX);have hO9:=hO8.setCell aO.fair (p:=⟨X,4,none⟩) (Value.slice A8 n8 c8) (hX8.gV hO8 (by decide)) (fun h=>h);have hX9:=hX8.gB 4 (Value.slice A8 n8 c8);have hZ9:=hZ8.far (p:=⟨X,4,none⟩) (show w.heap.size≠X by omega) (Value.slice A8 n8 c8);have hG9:=iV hG8 (p:=⟨X,4,none⟩) (.inr (show w.heap.size≤X by omega)) (Value.slice A8 n8 c8);clear h8 hO8 hX8 hZ8 hG8;refine ang 10 (fun K hK=>?_);go_simp;refine hK.out _ _ nay ?_
    try simp only[pu]
    refine anf ?_ _;clear hS f4 c4 lX;generalize (World.setCell w8 _ _)=w9 at h9 hO9 hX9 hZ9 hG9 ⊢;go_wp2_with fail;refine(htake.out _ _ _ h9).mono ?_;rintro e w10 ⟨rfl,h10,hg10⟩;have hne9:(Value.slice A8 n8 c8).ownBlock≠some g:=fun e=>by have:=(hO9.lt e).1;omega
    have hX10:=hX9.grown hg10 (by intro e;injection e with e;omega);have hZ10:=hZ9.grown hg10 (by intro e;injection e with e;omega);have hO10:=hO9.kept aO.fair hg10 (.inr hne9) (fun _ _ h=>h);have hG10:=aF hG9 hg10 (.inl rfl);have H10:=hidL h10.m;clear hX9 hZ9 hO9 hG9 h9 hg10 hne9 hnX;go_wp2;go_roundw
    case rel =>
     obtain⟨i1,i2,i3,i4,i5⟩:=HI.out;obtain⟨k',hk1,hk2⟩:=acl acc Hbad.out Hq.out i2;have hm:=oH Hbad.out;have hm2:=vD q.number.2;have hm3:=lD q.number.2.word.2 ku;refine⟨q.number.2.word.2.take ku,acc++[⟨q.number.2.word.1,q.number.1⟩],Value.slice A8 n8 c8,k',h10,hX10,hZ10,hO10,hG10,(show _∧_ from⟨i1.number.word.take _,hk1,by simp;omega,?_,by rw[i5,hk2]⟩)⟩;intro x hx;rcases List.mem_append.1 hx with hx | hx
     ·exact i4 x hx
     ·rw[List.mem_singleton.1 hx];exact ajY _ i1.number.next.2
    case measure =>
     have hm:=oH Hbad.out;have hm2:=vD q.number.2;have hm3:=lD q.number.2.word.2 ku;show Ll w10 g<Ll wr g;have e1:Ll w10 g=rdM (q.number.2.word.2.take ku):=H10.out;have e2:=hM.out;omega
theorem acQ:dK prog 50 55 5 56:=dK.mk (z:=.agg (FF 0 .empty .empty 0 0).toArray) underlying50 (by decide) (by decide) (by kernel_rfl) rfl
theorem ajU:dK prog 42 3 1 8:=dK.mk (z:=O 0) underlying42 (by decide) (by decide) (by kernel_rfl) rfl
def Lists (w:World):Prop:=(∃ e,Box w 1 e (DD.map Value.string))∧∃ e,Box w 0 e (vX.map Value.string)
theorem Lists.below {w w':World}(h:Lists w)(hb:Below w.heap.size w w'):Lists w':=by
 obtain⟨⟨e1,h1⟩,⟨e2,h2⟩⟩:=h;exact⟨⟨e1,h1.below hb h1.lt⟩,⟨e2,h2.below hb h2.lt⟩⟩
theorem Sd {w:World}{g e:Nat}{l:List ByteArray}(h:Box w g e (l.map Value.string))(hl:l.length≤100):RSl 1 16 lQ (fun _=>True) w [.slice (some ⟨g,0,none⟩) l.length l.length] l :=
 ⟨_,_,rfl,Nat.le_refl _,by omega,fun k x hk=>by
  have hlt:k<l.length:=by
   rcases Nat.lt_or_ge k l.length with h | h
   ·exact h
   ·rw[List.getElem?_eq_none h] at hk;cases hk
  refine⟨g,0,[.string x],rfl,trivial,h.lt,rfl,rfl,fun j hj=>?_⟩;have hj0:j=0:=by simpa using hj
  subst hj0;rw[h.cell];simp[hk]⟩
theorem afv {r:Rd}{k:Nat}(gs:List Int)(h1:r.bad=false)(h2:r.at_ ku=false)(h3:rdM r≤k):∃ k',rdM r.number.2≤k'∧mQ k r gs=mQ k' r.number.2 (gs++[r.number.1]):=by
 have a:=oH h1;cases k with
 | zero=>omega
 | succ k=>exact⟨k,by omega,by rw[mQ,if_pos ⟨h1,h2⟩]⟩
theorem UT {r:Rd}(k:Nat)(gs:List Int)(h:¬ (r.bad=false∧r.at_ ku=false)):mQ k r gs=(gs,r):=by
 cases k with
 | zero=>rfl
 | succ k=>rw[mQ,if_neg h]
theorem RO {r:Rd}(k:Nat)(fs:List ay)(gs:List Int)(h:¬ (r.bad=false∧r.at_ il=false)):jH k r fs gs=(fs,gs,r):=by
 cases k with
 | zero=>rfl
 | succ k=>rw[jH,if_neg h]
theorem abT {r q':Rd}{k:Nat}{fs:List ay}{gs gs':List Int}(h1:r.bad=false)(h2:r.at_ il=false)(h3:r.at_ CE=true)(h4:rdM r≤k)(hg:mQ (r.l.length+2) r.next.2 gs=(gs',q'))(hm:rdM q'≤rdM r.next.2) :
  ∃ k',rdM (q'.take ku)≤k'∧jH k r fs gs=jH k' (q'.take ku) fs gs':=by
 have a:=sW h1;have b:=lD q' ku;cases k with
 | zero=>omega
 | succ k=>exact⟨k,by omega,by rw[jH,if_pos ⟨h1,h2⟩,if_pos h3,hg]⟩
theorem EZ {r:Rd}(h:r.bad=false):rdM (kJ r).2<rdM r:=by
 have a:=oH h;have b:=Ae r.number.2;have c:=vD r.number.2.next.2;have d:=vD r.number.2.next.2.word.2;have e:rdM (kJ r).2≤rdM r.number.2.next.2.word.2.word.2:=by
  unfold kJ rdM;dsimp only
  by_cases hb:r.number.2.next.2.word.2.word.2.bad=true
  ·simp[hb]
  ·simp only[hb];simp;split <;> omega
 omega
theorem Small.field {r:Rd}(h:Small r):Small (kJ r).2:=h.number.next.1.word.word.told _
theorem aak {r:Rd}{k:Nat}{fs:List ay}{gs:List Int}(h1:r.bad=false)(h2:r.at_ il=false)(h3:r.at_ CE=false)(h4:rdM r≤k) :
  ∃ k',rdM ((kJ r).2.take ku)≤k'∧jH k r fs gs=jH k' ((kJ r).2.take ku) (fs++[(kJ r).1]) gs:=by
 have a:=EZ h1;have b:=lD (kJ r).2 ku;cases k with
 | zero=>omega
 | succ k=>exact⟨k,by omega,by rw[jH,if_pos ⟨h1,h2⟩,if_neg (by rw[h3];simp)]⟩
theorem akW {r:Rd}(h:Small r):gN (kJ r).1:=⟨(FT r).1,(FT r).2,h.number.next.1.word.next.2,by
 unfold kJ;dsimp only;split
 ·exact Nat.zero_le _
 ·exact h.number.next.1.next.2⟩
theorem own_ne {α β:Type}{R:Rel α}{R':Rel β}{base base' e e' sz sz':Nat}{T T':Nat→Prop}{w:World}{v v':Value}{xs:List α}{ys:List β}(h:Own base e sz R T w v xs)(h':Own base' e' sz' R' T' w v' ys)(hne:e≠e'):v.ownBlock=none∨v.ownBlock≠v'.ownBlock:=by
 obtain⟨css,h1,_⟩:=h;obtain⟨css',h2,_⟩:=h';rcases h1.2 with ⟨rfl,_⟩ | ⟨g,cap,cur,rfl,_,hh,_⟩
 ·exact .inl rfl
 ·refine .inr ?_;rcases h2.2 with ⟨rfl,_⟩ | ⟨g',cap',cur',rfl,_,hh',_⟩
  ·simp[Value.ownBlock]
  ·intro he;have:g=g':=by simpa[Value.ownBlock] using he
   subst this;rw[hh] at hh';injection hh' with hh'
   injection hh' with _ ht
   exact hne ht
theorem JX {α:Type}{R:Rel α}{base e sz g:Nat}{v:Value}{xs:List α}(hR:Fair R)(hv:v.ownBlock≠some g):∀ (vs:List Value) (i:Nat) (w:World),Own base e sz R NoT w v xs→Own base e sz R NoT (Go.Proofs.YtknnhpkjgnkcdaaGreatDoor.setCells w g i vs) v xs
 | [],_,_,h=>h
 | u::vs,i,w,h=>JX hR hv vs (i+1) _ (h.setCell hR (p:=⟨g,i,none⟩) u hv (fun h=>h))
theorem Ol {W:World}{a:Act}{g:Nat}{c0 c1 c2 c3 c4:Value}(hb:Box W g 53 [c0,c1,c2,c3,c4])(h4:a.tmps.getD 2 undef=.pointer (some ⟨g,0,none⟩)) :
  (results f31 a.tmps).run prog W=.ok (.agg #[c0,c1,c2,c3,c4]) W:=by
 obtain⟨e0,e1,e2,e3,e4⟩:=hb.five;simp only[Array.getD_eq_getD_getElem?] at h4;simp[results,results31,go_sem,h4,e0,e1,e2,e3,e4]
theorem WS (S:Nat→Prop)(g:Nat)(r:Rd)(B w:World)(h:Rdr S w g r)(hS:¬ S g)(hSw:∀ k,S k→k<w.heap.size)(hz:Small r)(hN:wO B)(hL:Lists B)(hB:Below B.heap.size B w)(hg:B.heap.size≤g):Calls prog 31 #[.pointer (some ⟨g,0,none⟩)] w (aeP S w g (mZ r)):=by
 have hgw:=h.lt;obtain⟨r1,hr1⟩:=exE r.word.2;obtain⟨nm,hnm⟩:=exE r.word.1;have Hnz:Hid (nm.size≤4000):=by show nm.size≤4000;rw[hnm];exact hz.next.2
 obtain⟨r2,hr2⟩:=exE (r1.take mP);obtain⟨er,her⟩:=exE (mZ r);have Her:Hid (er=(⟨nm,false,bL kK (jH (r2.l.length+2) r2 [] []).1,bL ltInt (jH (r2.l.length+2) r2 [] []).2.1,[]⟩,(jH (r2.l.length+2) r2 [] []).2.2.take il)):=by show _=_;rw[her,hr2,hr1,hnm];rfl
 rw[←her];have Hs2:Hid (Small r2):=by show Small r2;rw[hr2,hr1];exact hz.word.take _
 have hword:=hidL (fun W (hW:Rdr S W g r)=>JN S g r W hW hS (by have:=hz.next.2;omega));have htake:=hidL (fun (q:Rd) (s:ByteArray) W (hW:Rdr S W g q)=>Ze S g q s W hW hS);have hnxt:=hidL (fun (q:Rd) W (hW:Rdr S W g q)=>ER S g q W hW hS);have hnum:=hidL (fun (q:Rd) W (hW:Rdr S W g q) (hs:Small q) (hg':w.grownBy W (some g))=>Mr S g q B W hW hS hs.next.2 hN (below_grown hB hg' hB.size (fun g' e=>by injection e with e;omega)) hg);have hlst:=hidL (fun W (hg':w.grownBy W (some g))=>hL.below (below_grown hB hg' hB.size (fun g' e=>by injection e with e;omega)));have hwrd:=hidL (fun (q:Rd) W (hW:Rdr S W g q) (hs:Small q)=>JN S g q W hW hS (by have:=hs.next.2;omega));have HS:=hidL hS;have HSw:=hidL hSw;rw[←hr1,←hnm] at hword;have Hr2:=hidL hr2;have hR0:=h.keep (az.alloc _ w (.cells [.string ⟨#[]⟩,.bool false,Z0,Z0,Z0].toArray 53));have hZ0:=Box.new w 53 [.string ⟨#[]⟩,.bool false,Z0,Z0,Z0];have hG0:=jC (row:=some g) (aK (Below.refl w.heap.size w) (some g)) (.cells [.string ⟨#[]⟩,.bool false,Z0,Z0,Z0].toArray 53);clear h hS hSw hz hN hL hB hg hr1 hnm her hr2;go_enter func31,ntmps31;go_wp2_with fail;generalize (World.alloc w (.cells _ _))=w0 at hR0 hZ0 hG0 ⊢;refine(hword.out _ hR0).mono ?_;rintro e w1 ⟨rfl,h1,hg1⟩;go_wp2_with fail;have hR1:=h1.keep (az.alloc _ w1 (.cells [.string nm,.bool false,Z0,Z0,Z0].toArray 53));have hX1:=Box.new w1 53 [.string nm,.bool false,Z0,Z0,Z0];have hZ1:=(hZ0.grown hg1 (by intro e;injection e with e;omega)).alloc (.cells [.string nm,.bool false,Z0,Z0,Z0].toArray 53);have hG1:=jC (aF hG0 hg1 (.inl rfl)) (.cells [.string nm,.bool false,Z0,Z0,Z0].toArray 53);have hzx:w.heap.size<w1.heap.size:=by have:=hZ0.lt;have:=hg1.size;omega
 generalize w1.heap.size=X at hX1 hzx ⊢;generalize (World.alloc w1 (.cells _ _))=w2 at hR1 hX1 hZ1 hG1 ⊢;refine(htake.out _ _ _ hR1).mono ?_;rintro e w3 ⟨rfl,h3,hg3⟩;replace h3:Rdr S w3 g r2:=by rw[Hr2.out];exact h3
 have hX3:=hX1.grown hg3 (by intro e;injection e with e;omega);have hZ3:=hZ1.grown hg3 (by intro e;injection e with e;omega);have hG3:=aF hG1 hg3 (.inl rfl);clear hR1 hX1 hZ1 hG1 hg3 hR0 hZ0 hG0 hg1 h1;go_wp2_with fail;go_loopw [] (fun wr=>∃ (q:Rd) (fs:List ay) (gs:List Int) (vf vg:Value) (k:Nat),Rdr S wr g q∧Box wr X 53 [.string nm,.bool false,vf,vg,Z0]∧Box wr w.heap.size 53 [.string ⟨#[]⟩,.bool false,Z0,Z0,Z0]∧Own w.heap.size 55 5 aH NoT wr vf fs∧Own w.heap.size 3 1 aQ NoT wr vg gs∧w.grownBy wr (some g)∧Hid (Small q∧rdM q≤k∧(fs).length+(gs).length+rdM q≤4001∧(∀ x∈(fs),gN x)∧jH (r2.l.length+2) r2 [] []=jH k q fs gs)) (fun wr=>Ll wr g)
 case atStart=>exact⟨r2,[],[],_,_,r2.l.length+2,h3,hX3,hZ3,Own.dJ _ _ _ _ _ _,Own.dJ _ _ _ _ _ _,hG3,(show _∧_ from⟨Hs2.out,by unfold rdM;split <;> omega,by have:=Hs2.out.1;unfold rdM;simp;split <;> omega,(fun x hx=>by cases hx),rfl⟩)⟩
 case round =>
  clear h3 hX3 hZ3 hG3;obtain⟨q,fs,gs,vf,vg,k,hR,hX,hZ,hO,hP,hG,HI⟩:=hrel;have hat:=hidL (XE S g q il wr hR);have hM:=hidL hR.m;obtain⟨uv,hbx,-⟩:=hidL hR |>.out
  have c1:LL wr g 1 (.bool q.bad):=hbx.cell 1;have hl:=hbx.lt;clear hbx
  by_cases hbad:q.bad=true
  case' pos =>
   have Hst:Hid (jH k q fs gs=(fs,gs,q)):=by show _=_;exact RO k fs gs (by rw[hbad];simp)
   rw[hbad] at c1;clear hbad;go_wp2_with fail;have hR3:=hR;have hX3:=hX;have hZ3:=hZ;have hO3:=hO;have hP3:=hP;have hG3:=hG;clear hR hX hZ hO hP hG hat hl c1
  case' neg =>
   have hbad:q.bad=false:=by simpa using hbad
   have Hbad:=hidL hbad;rw[hbad] at c1;clear hbad;go_upto_region 5 with fail;refine hat.out.mono ?_;rintro e w3 ⟨rfl,hb3⟩;have hR3:=hR.below hb3;have hX3:=hX.below hb3 hX.lt;have hZ3:=hZ.below hb3 hZ.lt;have hO3:=hO.below aH.fair hb3;have hP3:=hP.below aQ.fair hb3;have hG3:=aF hG (aK hb3 (some g)) (.inl rfl);clear hR hX hZ hO hP hG hb3 c1 hl hat;cases hq:q.at_ il
   case' true =>
    have Hst:Hid (jH k q fs gs=(fs,gs,q)):=by show _=_;exact RO k fs gs (by rw[hq];simp)
    clear hq;go_wp2_with fail
   case' false =>
    have Hq:=hidL hq;clear hq;go_wp2_with fail;refine(XE S g q CE w3 hR3).mono ?_;rintro e w4 ⟨rfl,hb4⟩;have hR4:=hR3.below hb4;have hX4:=hX3.below hb4 hX3.lt;have hZ4:=hZ3.below hb4 hZ3.lt;have hO4:=hO3.below aH.fair hb4;have hP4:=hP3.below aQ.fair hb4;have hG4:=aF hG3 (aK hb4 (some g)) (.inl rfl);clear hR3 hX3 hZ3 hO3 hP3 hG3 hb4;cases hq2:q.at_ CE with
    | true =>
     have Hq2:=hidL hq2;clear hq2;go_wp2_with fail;refine(hnxt.out q w4 hR4).mono ?_;rintro e w5 ⟨rfl,h5,hg5⟩;have hneO:vf.ownBlock≠some g:=fun e=>by have:=(hO4.lt e).1;omega
     have hneP:vg.ownBlock≠some g:=fun e=>by have:=(hP4.lt e).1;omega
     have hX5:=hX4.grown hg5 (by intro e;injection e with e;omega);have hZ5:=hZ4.grown hg5 (by intro e;injection e with e;omega);have hO5:=hO4.kept aH.fair hg5 (.inr hneO) (fun _ _ h=>h);have hP5:=hP4.kept aQ.fair hg5 (.inr hneP) (fun _ _ h=>h);have hG5:=aF hG4 hg5 (.inl rfl);clear hR4 hX4 hZ4 hO4 hP4 hG4 hneP;go_wp2_with fail;go_loopw [] (fun wi=>∃ (q':Rd) (gs':List Int) (vg':Value) (k':Nat),Rdr S wi g q'∧Box wi X 53 [.string nm,.bool false,vf,vg',Z0]∧Box wi w.heap.size 53 [.string ⟨#[]⟩,.bool false,Z0,Z0,Z0]∧Own w.heap.size 55 5 aH NoT wi vf fs∧Own w.heap.size 3 1 aQ NoT wi vg' gs'∧w.grownBy wi (some g)∧Hid (Small q'∧rdM q'≤k'∧rdM q'≤rdM q.next.2∧fs.length+gs'.length+rdM q'≤4001∧mQ (q.l.length+2) q.next.2 gs=mQ k' q' gs')) (fun wi=>Ll wi g)
     case atStart =>
      refine⟨q.next.2,gs,vg,q.l.length+2,h5,hX5,hZ5,hO5,hP5,hG5,(show _∧_ from⟨HI.out.1.next.1,?_,Nat.le_refl _,?_,rfl⟩)⟩
      ·have a:=Ae q;have b:rdM q≤q.l.length+1:=by unfold rdM;split <;> omega
       omega
      ·have a:=Ae q;have b:=HI.out.2.2.1;omega
     case round =>
      clear h5 hX5 hZ5 hO5 hP5 hG5 hg5;obtain⟨q',gs',vg',k',jR,jX,jZ,jO,jP,jG,HJ⟩:=hrel;have jat:=hidL (XE S g q' ku _ jR);have jM:=hidL jR.m;obtain⟨uv,hbx,-⟩:=hidL jR |>.out
      have c1:=hbx.c 1 rfl;have f1:=hbx.frozen 1;have hl:=hbx.lt;clear hbx f1
      by_cases hbad:q'.bad=true
      case' pos =>
       have Hst:Hid (mQ k' q' gs'=(gs',q')):=by show _=_;exact UT k' gs' (by rw[hbad];simp)
       rw[hbad] at c1;clear hbad;go_wp2_with fail;have jR3:=jR;have jX3:=jX;have jZ3:=jZ;have jO3:=jO;have jP3:=jP;have jG3:=jG;clear jR jX jZ jO jP jG jat hl c1
      case' neg =>
       have hbad:q'.bad=false:=by simpa using hbad
       have Jbad:=hidL hbad;rw[hbad] at c1;clear hbad;go_upto_region 8 with fail;refine jat.out.mono ?_;rintro e w3 ⟨rfl,hb3⟩;have jR3:=jR.below hb3;have jX3:=jX.below hb3 jX.lt;have jZ3:=jZ.below hb3 jZ.lt;have jO3:=jO.below aH.fair hb3;have jP3:=jP.below aQ.fair hb3;have jG3:=aF jG (aK hb3 (some g)) (.inl rfl);clear jR jX jZ jO jP jG hb3 c1 hl jat;cases hq:q'.at_ ku
       case' true =>
        have Hst:Hid (mQ k' q' gs'=(gs',q')):=by show _=_;exact UT k' gs' (by rw[hq];simp)
        clear hq;go_wp2_with fail
       case' false =>
        have Jq:=hidL hq;clear hq;go_upto_region 8 with fail;have hRd:=jR3.keep (az.drew _ _);have hXd:=jX3.drew;have hZd:=jZ3.drew;have hOd:=jO3.drew aH.fair;have hPd:=jP3.drew aQ.fair;have hGd:=qx jG3;have hS:(fun W'=>LL W' X 3 vg') w3.drew:=jX3.drew.cell 3;refine aJ (fun W'=>LL W' X 3 vg') (fun i=>i != 7) (by kernel_rfl) ?_;clear jR3 jX3 jZ3 jO3 jP3 jG3;generalize w3.drew=Wd at hRd hXd hZd hOd hPd hGd hS ⊢;apply ppP 0;apply tkP 1 hS;apply ppP 2
        try simp only[pu]
        refine ang 3 (fun K hK=>?_);go_simp;refine(hnum.out q' Wd hRd HJ.out.1 hGd).mono ?_;rintro e w5 ⟨rfl,h5,hg5⟩;have hneP:vg'.ownBlock≠some g:=fun e=>by have:=(hPd.lt e).1;omega
        have hX5:=hXd.grown hg5 (by intro e;injection e with e;omega);have hZ5:=hZd.grown hg5 (by intro e;injection e with e;omega);have hO5:=hOd.kept aH.fair hg5 (.inr hneO) (fun _ _ h=>h);have hP5:=hPd.kept aQ.fair hg5 (.inr hneP) (fun _ _ h=>h);have hG5:=aF hGd hg5 (.inl rfl);replace hS:(fun W'=>LL W' X 3 vg') w5:=hX5.cell 3;clear hXd hZd hOd hPd hGd hg5 hRd;refine hK.out _ _ (fun _ _=>hS) ?_
        try simp only[pu]
        refine ang 4 (fun K hK=>?_);go_simp;have h7:=h5.keep (az.alloc _ w5 (.cells #[O q'.number.1] 3));have hB7:=Box.new w5 3 [O q'.number.1];have hX7:=hX5.alloc (.cells #[O q'.number.1] 3);have hZ7:=hZ5.alloc (.cells #[O q'.number.1] 3);have hO7:=hO5.alloc aH.fair (.cells #[O q'.number.1] 3);have hP7:=hP5.alloc aQ.fair (.cells #[O q'.number.1] 3);have hG7:=jC hG5 (.cells #[O q'.number.1] 3);replace hS:(fun W'=>LL W' X 3 vg') (w5.alloc (.cells #[O q'.number.1] 3)):=hX7.cell 3;clear hX5 hZ5 hO5 hP5 hG5 h5;refine hK.out _ _ (fun _ _=>hS) ?_
        try simp only[pu]
        refine ang 5 (fun K hK=>?_);obtain⟨A7,c7,hv7,-⟩:=hP7.form;refine dM _ rfl (.tmp 38) (.tmp 41) rfl ajU aQ.fair rfl rfl hP7 (Src.one (es:=[O q'.number.1]) (y:=q'.number.1) rfl (gI.bK rfl) rfl hB7.lies) (NoT.lt _) (by have:=HJ.out.2.2.2.1;simp;omega) hG7.size ?_;intro v8 w8 hP8 hg8 hv8;clear hv8;obtain⟨A8,c8,hv8,-⟩:=hP8.form;subst hv8;generalize (gs'++[q'.number.1]).length=n8 at hP8 ⊢;have h8:=h7.grown hg8 (fun k e=>by have:=(hP7.lt e).1;exact⟨fun hk=>by have:=HSw.out k hk;omega,by omega⟩);have hX8:=hX7.grown hg8 (hX7.gV hP7 (by decide));have hZ8:=hZ7.grown hg8 (hZ7.gV hP7 (by decide));have hO8:=hO7.kept aH.fair hg8 (own_ne hO7 hP7 (by decide)) (fun _ _ h=>h);have hG8:=aF hG7 hg8 (.inr (fun k e=>(hP7.lt e).1));replace hS:(fun W'=>LL W' X 3 vg') w8:=hX8.cell 3;clear hX7 hZ7 hO7 hP7 hG7 hg8 h7 hB7 hv7 hneP;refine hK.out _ _ (fun _ _=>hS) ?_
        try simp only[pu]
        apply ppP 6
        try simp only[pu]
        have f4:=hX8.frozen 3;have c4:=hX8.cell 3;have lX:=hX8.lt;have hnX:¬ (S X∨X=g):=fun h=>h.elim (fun h=>by have:=HSw.out X h;omega) (fun h=>by omega)
        have h9:=h8.keep (az.setCell w8 (a:=⟨X,3,none⟩) (Value.slice A8 n8 c8) hnX);have hO9:=hO8.setCell aH.fair (p:=⟨X,3,none⟩) (Value.slice A8 n8 c8) (hX8.gV hO8 (by decide)) (fun h=>h);have hP9:=hP8.setCell aQ.fair (p:=⟨X,3,none⟩) (Value.slice A8 n8 c8) (hX8.gV hP8 (by decide)) (fun h=>h);have hX9:=hX8.gB 3 (Value.slice A8 n8 c8);have hZ9:=hZ8.far (p:=⟨X,3,none⟩) (show w.heap.size≠X by omega) (Value.slice A8 n8 c8);have hG9:=iV hG8 (p:=⟨X,3,none⟩) (.inr (show w.heap.size≤X by omega)) (Value.slice A8 n8 c8);clear h8 hO8 hP8 hX8 hZ8 hG8 hnX;refine ang 7 (fun K hK=>?_);go_simp;refine hK.out _ _ nay ?_
        try simp only[pu]
        refine anf ?_ _;clear hS f4 c4 lX;have H9:=hidL h9.m;go_wp2;go_roundw
        case rel =>
         obtain⟨i1,i2,i3,i4,i5⟩:=HJ.out;obtain⟨k2,hk1,hk2⟩:=afv gs' Jbad.out Jq.out i2;have hm:=oH Jbad.out;exact⟨q'.number.2,gs'++[q'.number.1],Value.slice A8 n8 c8,k2,h9,hX9,hZ9,hO9,hP9,hG9,(show _∧_ from⟨i1.number,hk1,by omega,by simp;omega,by rw[i5,hk2]⟩)⟩
        case measure =>
         have hm:=oH Jbad.out;have e1:=H9.out;have e2:=jM.out;omega
      all_goals
       refine(htake.out q' ku _ jR3).mono ?_;rintro e w10 ⟨rfl,h10,hg10⟩;have hneP9:vg'.ownBlock≠some g:=fun e=>by have:=(jP3.lt e).1;omega
       have hX10:=jX3.grown hg10 (by intro e;injection e with e;omega);have hZ10:=jZ3.grown hg10 (by intro e;injection e with e;omega);have hO10:=jO3.kept aH.fair hg10 (.inr hneO) (fun _ _ h=>h);have hP10:=jP3.kept aQ.fair hg10 (.inr hneP9) (fun _ _ h=>h);have hG10:=aF jG3 hg10 (.inl rfl);have H10:=hidL h10.m;clear jX3 jZ3 jO3 jP3 jG3 hg10;go_wp2;go_roundw
       case rel =>
        obtain⟨i1,i2,i3,i4,i5⟩:=HI.out;obtain⟨j1,j2,j3,j4,j5⟩:=HJ.out;rw[Hst.out] at j5;obtain⟨k2,hk1,hk2⟩:=abT (fs:=fs) Hbad.out Hq.out Hq2.out i2 j5 j3;have hm3:=lD q' ku;exact⟨q'.take ku,fs,gs',vf,vg',k2,h10,hX10,hZ10,hO10,hP10,hG10,(show _∧_ from⟨j1.take _,hk1,by omega,i4,by rw[i5,hk2]⟩)⟩
       case measure =>
        have hm:=sW Hbad.out;have hm2:=HJ.out.2.2.1;have hm3:=lD q' ku;have e1:=H10.out;have e2:=hM.out;omega
    | false =>
     have Hq2:=hidL hq2;clear hq2;have hneO:vf.ownBlock≠some g:=fun e=>by have:=(hO4.lt e).1;omega
     have hneP:vg.ownBlock≠some g:=fun e=>by have:=(hP4.lt e).1;omega
     obtain⟨id,hidd⟩:=exE q.number.1;obtain⟨q1,hq1⟩:=exE q.number.2;obtain⟨x1,hx1⟩:=exE q1.next.1;obtain⟨q2,hq2⟩:=exE q1.next.2;obtain⟨ty,hty⟩:=exE q2.word.1;obtain⟨q3,hq3⟩:=exE q2.word.2;obtain⟨nme,hnme⟩:=exE q3.word.1;obtain⟨q4,hq4⟩:=exE q3.word.2;obtain⟨ri,hri⟩:=exE (De DD x1);obtain⟨ki,hki⟩:=exE (De vX ty);have Hf:Hid (kJ q=(⟨id,nme,if 0<ki then ⟨#[]⟩ else ty,if 0<ki then ki else 0,ri⟩,⟨q4.l,q4.bad||decide (ri<1)⟩)):=by show _=_;rw[hri,hki,hq4,hnme,hq3,hty,hq2,hx1,hq1,hidd];rfl
     have s1:Hid (Small q1):=by show Small q1;rw[hq1];exact HI.out.1.number
     have s2:Hid (Small q2):=by show Small q2;rw[hq2];exact s1.out.next.1
     have s3:Hid (Small q3):=by show Small q3;rw[hq3];exact s2.out.word
     have k1:=hidL (fun W (hW:Rdr S W g q) (hG':w.grownBy W (some g))=>hnum.out q W hW HI.out.1 hG');have k2:=hidL (fun W (hW:Rdr S W g q1)=>hnxt.out q1 W hW);have k3:=hidL (fun W (hW:Rdr S W g q2)=>hwrd.out q2 W hW s2.out);have k4:=hidL (fun W (hW:Rdr S W g q3)=>hwrd.out q3 W hW s3.out);rw[←hidd,←hq1] at k1;rw[←hx1,←hq2] at k2;rw[←hty,←hq3] at k3;rw[←hnme,←hq4] at k4;have Hri:=hidL hri;have Hki:=hidL hki;clear hidd hq1 hx1 hq2 hty hq3 hnme hq4 hri hki;go_upto_region 10 with fail;refine(k1.out w4 hR4 hG4).mono ?_;rintro e w5 ⟨rfl,h5,hg5⟩;have hX5:=hX4.grown hg5 (by intro e;injection e with e;omega);have hZ5:=hZ4.grown hg5 (by intro e;injection e with e;omega);have hO5:=hO4.kept aH.fair hg5 (.inr hneO) (fun _ _ h=>h);have hP5:=hP4.kept aQ.fair hg5 (.inr hneP) (fun _ _ h=>h);have hG5:=aF hG4 hg5 (.inl rfl);clear hX4 hZ4 hO4 hP4 hG4 hg5;clear hR4;go_upto_region 10 with fail;have h6:=h5.keep (az.alloc _ w5 (.cells [O id,.string ⟨#[]⟩,.string ⟨#[]⟩,O 0,O 0].toArray 55));have hF6:=Box.new w5 55 [O id,.string ⟨#[]⟩,.string ⟨#[]⟩,O 0,O 0];have hX6:=hX5.alloc (.cells [O id,.string ⟨#[]⟩,.string ⟨#[]⟩,O 0,O 0].toArray 55);have hZ6:=hZ5.alloc (.cells [O id,.string ⟨#[]⟩,.string ⟨#[]⟩,O 0,O 0].toArray 55);have hO6:=hO5.alloc aH.fair (.cells [O id,.string ⟨#[]⟩,.string ⟨#[]⟩,O 0,O 0].toArray 55);have hP6:=hP5.alloc aQ.fair (.cells [O id,.string ⟨#[]⟩,.string ⟨#[]⟩,O 0,O 0].toArray 55);have hG6:=jC hG5 (.cells [O id,.string ⟨#[]⟩,.string ⟨#[]⟩,O 0,O 0].toArray 55);have hXF:=hX5.lt;have hnOF:vf.ownBlock≠some w5.heap.size:=fun e=>by have:=(hO5.lt e).2;omega
     have hnPF:vg.ownBlock≠some w5.heap.size:=fun e=>by have:=(hP5.lt e).2;omega
     clear h5 hX5 hZ5 hO5 hP5 hG5;generalize w5.heap.size=F at hF6 hXF hnOF hnPF ⊢;generalize (World.alloc w5 (.cells _ _))=w6 at h6 hF6 hX6 hZ6 hO6 hP6 hG6 ⊢;have hnF:¬ (S F∨F=g):=fun h=>h.elim (fun h=>by have:=HSw.out F h;omega) (fun h=>by omega)
     have hRd:=h6.keep (az.drew _ _);have hFd:=hF6.drew;have hXd:=hX6.drew;have hZd:=hZ6.drew;have hOd:=hO6.drew aH.fair;have hPd:=hP6.drew aQ.fair;have hGd:=qx hG6;have hS:(fun _=>True) w6.drew:=trivial;refine aJ (fun _=>True) (fun i=>i != 5) (by kernel_rfl) ?_;clear h6 hF6 hX6 hZ6 hO6 hP6 hG6;generalize w6.drew=Wd at hRd hFd hXd hZd hOd hPd hGd hS ⊢;apply ppP 0;apply ppP 1
     try simp only[pu]
     refine ang 2 (fun K hK=>?_);go_simp;refine(k2.out Wd hRd).mono ?_;rintro e w7 ⟨rfl,h7,hg7⟩;have hF7:=hFd.grown hg7 (by intro e;injection e with e;omega);have hX7:=hXd.grown hg7 (by intro e;injection e with e;omega);have hZ7:=hZd.grown hg7 (by intro e;injection e with e;omega);have hO7:=hOd.kept aH.fair hg7 (.inr hneO) (fun _ _ h=>h);have hP7:=hPd.kept aQ.fair hg7 (.inr hneP) (fun _ _ h=>h);have hG7:=aF hGd hg7 (.inl rfl);clear hXd hZd hOd hPd hGd hg7;clear hFd hRd;replace hS:(fun _=>True) w7:=trivial;refine hK.out _ _ (fun _ _=>hS) ?_
     try simp only[pu]
     refine ang 3 (fun K hK=>?_);go_simp;obtain⟨ek,hkl⟩:=(hlst.out w7 hG7).1;have hix:=IC (fun _=>True) _ DD x1 w7 (Sd hkl (by decide));rw[←Hri.out] at hix;refine hix.mono ?_;rintro e w8 ⟨rfl,rfl⟩;clear hix hkl;refine hK.out _ _ (fun _ _=>hS) ?_
     try simp only[pu]
     apply ppP 4
     try simp only[pu]
     have e4:=hF7.cell 4;have u4:=hF7.frozen 4;have lF:=hF7.lt;have h9:=h7.keep (az.setCell _ (a:=⟨F,4,none⟩) (O ri) hnF);have hF9:=hF7.gB 4 (O ri);have hX9:=hX7.far (p:=⟨F,4,none⟩) (show X≠F by omega) (O ri);have hZ9:=hZ7.far (p:=⟨F,4,none⟩) (show w.heap.size≠F by omega) (O ri);have hO9:=hO7.setCell aH.fair (p:=⟨F,4,none⟩) (O ri) hnOF (fun h=>h);have hP9:=hP7.setCell aQ.fair (p:=⟨F,4,none⟩) (O ri) hnPF (fun h=>h);have hG9:=iV hG7 (p:=⟨F,4,none⟩) (.inr (show w.heap.size≤F by omega)) (O ri);clear h7 hF7 hX7 hZ7 hO7 hP7 hG7;refine ang 5 (fun K hK=>?_);go_simp;refine hK.out _ _ nay ?_
     try simp only[pu]
     refine anf ?_ _;clear hS e4 u4 lF;generalize (World.setCell _ _ _)=w9 at h9 hF9 hX9 hZ9 hO9 hP9 hG9 ⊢;go_wp2_with fail;refine(k3.out w9 h9).mono ?_;rintro e w10 ⟨rfl,h10,hg10⟩;have hF10:=hF9.grown hg10 (by intro e;injection e with e;omega);have hX10:=hX9.grown hg10 (by intro e;injection e with e;omega);have hZ10:=hZ9.grown hg10 (by intro e;injection e with e;omega);have hO10:=hO9.kept aH.fair hg10 (.inr hneO) (fun _ _ h=>h);have hP10:=hP9.kept aQ.fair hg10 (.inr hneP) (fun _ _ h=>h);have hG10:=aF hG9 hg10 (.inl rfl);clear hX9 hZ9 hO9 hP9 hG9 hg10;clear hF9 h9;go_wp2_with fail;refine(k4.out w10 h10).mono ?_;rintro e w11 ⟨rfl,h11,hg11⟩;have hF11:=hF10.grown hg11 (by intro e;injection e with e;omega);have hX11:=hX10.grown hg11 (by intro e;injection e with e;omega);have hZ11:=hZ10.grown hg11 (by intro e;injection e with e;omega);have hO11:=hO10.kept aH.fair hg11 (.inr hneO) (fun _ _ h=>h);have hP11:=hP10.kept aQ.fair hg11 (.inr hneP) (fun _ _ h=>h);have hG11:=aF hG10 hg11 (.inl rfl);clear hX10 hZ10 hO10 hP10 hG10 hg11;clear hF10 h10;have e2:=hF11.cell 2;have e1:=hF11.cell 1;have u2:=hF11.frozen 2;have u1:=hF11.frozen 1;have lF:=hF11.lt;have h111:=h11.keep (az.setCell _ (a:=⟨F,2,none⟩) (.string ty) hnF);have hF111:=hF11.gB 2 (.string ty);have hX111:=hX11.far (p:=⟨F,2,none⟩) (show X≠F by omega) (.string ty);have hZ111:=hZ11.far (p:=⟨F,2,none⟩) (show w.heap.size≠F by omega) (.string ty);have hO111:=hO11.setCell aH.fair (p:=⟨F,2,none⟩) (.string ty) hnOF (fun h=>h);have hP111:=hP11.setCell aQ.fair (p:=⟨F,2,none⟩) (.string ty) hnPF (fun h=>h);have hG111:=iV hG11 (p:=⟨F,2,none⟩) (.inr (show w.heap.size≤F by omega)) (.string ty);clear h11 hF11 hX11 hZ11 hO11 hP11 hG11;have h12:=h111.keep (az.setCell _ (a:=⟨F,1,none⟩) (.string nme) hnF);have hF12:=hF111.gB 1 (.string nme);have hX12:=hX111.far (p:=⟨F,1,none⟩) (show X≠F by omega) (.string nme);have hZ12:=hZ111.far (p:=⟨F,1,none⟩) (show w.heap.size≠F by omega) (.string nme);have hO12:=hO111.setCell aH.fair (p:=⟨F,1,none⟩) (.string nme) hnOF (fun h=>h);have hP12:=hP111.setCell aQ.fair (p:=⟨F,1,none⟩) (.string nme) hnPF (fun h=>h);have hG12:=iV hG111 (p:=⟨F,1,none⟩) (.inr (show w.heap.size≤F by omega)) (.string nme);clear h111 hF111 hX111 hZ111 hO111 hP111 hG111;go_upto_region 12 with fail;clear e2 e1 u2 u1 lF;generalize (World.setCell (World.setCell w11 _ _) _ _)=w12 at h12 hF12 hX12 hZ12 hO12 hP12 hG12 ⊢;obtain⟨uv,hbx,-⟩:=hidL h12 |>.out
     have gc1:LL w12 g 1 (.bool q4.bad):=hbx.cell 1;have gf1:=hbx.frozen 1;have gl1:=hbx.lt;have gF4:LL w12 F 4 (O ri):=hF12.cell 4;have lF:=hF12.lt;clear hbx
     by_cases hb4:q4.bad=true
     case' pos =>
      rw[hb4] at gc1;go_upto_region 13 with fail;obtain⟨bb,hbb⟩:=exE (true:Bool);have Hf1:Hid (kJ q=(⟨id,nme,if 0<ki then ⟨#[]⟩ else ty,if 0<ki then ki else 0,ri⟩,⟨q4.l,bb⟩)):=by show _=_;rw[Hf.out,hbb,hb4];rfl
      have h13:=h12.gB HS.out true;have hF13:=hF12.far (p:=⟨g,1,none⟩) (show F≠g by omega) (.bool true);have hX13:=hX12.far (p:=⟨g,1,none⟩) (show X≠g by omega) (.bool true);have hZ13:=hZ12.far (p:=⟨g,1,none⟩) (show w.heap.size≠g by omega) (.bool true);have hO13:=hO12.setCell aH.fair (p:=⟨g,1,none⟩) (.bool true) hneO (fun h=>h);have hP13:=hP12.setCell aQ.fair (p:=⟨g,1,none⟩) (.bool true) hneP (fun h=>h);have hG13:=iV hG12 (p:=⟨g,1,none⟩) (.inl rfl) (.bool true);clear h12 hF12 hX12 hZ12 hO12 hP12 hG12 hb4 gc1 gf1 gl1 gF4 lF;generalize (World.setCell w12 _ _)=w13 at h13 hF13 hX13 hZ13 hO13 hP13 hG13 ⊢;replace h13:Rdr S w13 g ⟨q4.l,bb⟩:=by rw[hbb];exact h13
      clear hbb
     case' neg =>
      have hb4:q4.bad=false:=by simpa using hb4
      rw[hb4] at gc1;go_upto_region 13 with fail;obtain⟨bb,hbb⟩:=exE ((decide (ri<1)):Bool);have Hf1:Hid (kJ q=(⟨id,nme,if 0<ki then ⟨#[]⟩ else ty,if 0<ki then ki else 0,ri⟩,⟨q4.l,bb⟩)):=by show _=_;rw[Hf.out,hbb,hb4];rfl
      have h13:=h12.gB HS.out (decide (ri<1));have hF13:=hF12.far (p:=⟨g,1,none⟩) (show F≠g by omega) (.bool (decide (ri<1)));have hX13:=hX12.far (p:=⟨g,1,none⟩) (show X≠g by omega) (.bool (decide (ri<1)));have hZ13:=hZ12.far (p:=⟨g,1,none⟩) (show w.heap.size≠g by omega) (.bool (decide (ri<1)));have hO13:=hO12.setCell aH.fair (p:=⟨g,1,none⟩) (.bool (decide (ri<1))) hneO (fun h=>h);have hP13:=hP12.setCell aQ.fair (p:=⟨g,1,none⟩) (.bool (decide (ri<1))) hneP (fun h=>h);have hG13:=iV hG12 (p:=⟨g,1,none⟩) (.inl rfl) (.bool (decide (ri<1)));clear h12 hF12 hX12 hZ12 hO12 hP12 hG12 hb4 gc1 gf1 gl1 gF4 lF;generalize (World.setCell w12 _ _)=w13 at h13 hF13 hX13 hZ13 hO13 hP13 hG13 ⊢;replace h13:Rdr S w13 g ⟨q4.l,bb⟩:=by rw[hbb];exact h13
      clear hbb
     all_goals
      have hRd:=h13.keep (az.drew _ _);have hFd:=hF13.drew;have hXd:=hX13.drew;have hZd:=hZ13.drew;have hOd:=hO13.drew aH.fair;have hPd:=hP13.drew aQ.fair;have hGd:=qx hG13;have hS:(fun W'=>LL W' F 2 (.string ty)) w13.drew:=hFd.cell 2;refine aJ (fun W'=>LL W' F 2 (.string ty)) (fun _=>true) (by kernel_rfl) ?_;clear h13 hF13 hX13 hZ13 hO13 hP13 hG13;generalize w13.drew=w14 at hRd hFd hXd hZd hOd hPd hGd hS ⊢;apply ppP 0;apply ppP 1;apply tkP 2 hS
      try simp only[pu]
      refine ang 3 (fun K hK=>?_);go_simp;obtain⟨ek,hkl⟩:=(hlst.out w14 hGd).2;have hix:=IC (fun _=>True) _ vX ty w14 (Sd hkl (by decide));rw[←Hki.out] at hix;refine hix.mono ?_;rintro e w15 ⟨rfl,rfl⟩;clear hix hkl;refine hK.out _ _ (fun _ _=>hS) ?_
      try simp only[pu]
      refine ang 4 (fun K hK=>?_);go_simp;refine hK.out _ _ (fun _ _=>hS) ?_
      try simp only[pu]
      refine anf ?_ _;clear hS
      by_cases hk0:0<ki
      case' pos =>
       have Hf2:Hid (kJ q=(⟨id,nme,⟨#[]⟩,ki,ri⟩,⟨q4.l,bb⟩)):=by show _=_;rw[Hf1.out,if_pos hk0,if_pos hk0]
       have h15:=hRd;have hF15:=hFd;have hX15:=hXd;have hZ15:=hZd;have hO15:=hOd;have hP15:=hPd;have hG15:=hGd;clear hRd hFd hXd hZd hOd hPd hGd;have e3:=hF15.cell 3;have e2:=hF15.cell 2;have u3:=hF15.frozen 3;have u2:=hF15.frozen 2;have lF:=hF15.lt;have h151:=h15.keep (az.setCell _ (a:=⟨F,3,none⟩) (O ki) hnF);have hF151:=hF15.gB 3 (O ki);have hX151:=hX15.far (p:=⟨F,3,none⟩) (show X≠F by omega) (O ki);have hZ151:=hZ15.far (p:=⟨F,3,none⟩) (show w.heap.size≠F by omega) (O ki);have hO151:=hO15.setCell aH.fair (p:=⟨F,3,none⟩) (O ki) hnOF (fun h=>h);have hP151:=hP15.setCell aQ.fair (p:=⟨F,3,none⟩) (O ki) hnPF (fun h=>h);have hG151:=iV hG15 (p:=⟨F,3,none⟩) (.inr (show w.heap.size≤F by omega)) (O ki);clear h15 hF15 hX15 hZ15 hO15 hP15 hG15;have h16:=h151.keep (az.setCell _ (a:=⟨F,2,none⟩) (.string ⟨#[]⟩) hnF);have hF16:=hF151.gB 2 (.string ⟨#[]⟩);have hX16:=hX151.far (p:=⟨F,2,none⟩) (show X≠F by omega) (.string ⟨#[]⟩);have hZ16:=hZ151.far (p:=⟨F,2,none⟩) (show w.heap.size≠F by omega) (.string ⟨#[]⟩);have hO16:=hO151.setCell aH.fair (p:=⟨F,2,none⟩) (.string ⟨#[]⟩) hnOF (fun h=>h);have hP16:=hP151.setCell aQ.fair (p:=⟨F,2,none⟩) (.string ⟨#[]⟩) hnPF (fun h=>h);have hG16:=iV hG151 (p:=⟨F,2,none⟩) (.inr (show w.heap.size≤F by omega)) (.string ⟨#[]⟩);clear h151 hF151 hX151 hZ151 hO151 hP151 hG151;go_upto_region 16 with fail;clear e3 e2 u3 u2 lF hk0;generalize (World.setCell (World.setCell w15 _ _) _ _)=w16 at h16 hF16 hX16 hZ16 hO16 hP16 hG16 ⊢;obtain⟨tt,htt⟩:=exE (⟨#[]⟩:ByteArray);obtain⟨kk,hkk⟩:=exE (ki:Int);rw[←htt,←hkk] at hF16 Hf2;clear htt hkk
      case' neg =>
       have Hf2:Hid (kJ q=(⟨id,nme,ty,0,ri⟩,⟨q4.l,bb⟩)):=by show _=_;rw[Hf1.out,if_neg hk0,if_neg hk0]
       have hk1:ki≤0:=by omega
       clear hk0;obtain⟨w16,hw16⟩:=exE w15;subst hw16;have h16:=hRd;have hF16:=hFd;have hX16:=hXd;have hZ16:=hZd;have hO16:=hOd;have hP16:=hPd;have hG16:=hGd;clear hRd hFd hXd hZd hOd hPd hGd;go_upto_region 16 with fail;clear hk1;obtain⟨tt,htt⟩:=exE (ty:ByteArray);obtain⟨kk,hkk⟩:=exE (0:Int);rw[←htt,←hkk] at hF16 Hf2;clear htt hkk
      all_goals
       obtain⟨A6,p6,hv6,-⟩:=hO16.form;have hOl:=hO16;subst hv6;obtain⟨d0,d1,d2,d3,d4⟩:=hF16.five;have x2:=hX16.c 2 rfl;have lF:=hF16.lt;have lX:=hX16.lt;have fX:=hX16.frozen 2;have h17:=h16.keep (az.alloc _ w16 (.cells #[O id,.string nme,.string tt,O kk,O ri] 55));have hB17:=Box.new w16 55 [O id,.string nme,.string tt,O kk,O ri];have hX17:=hX16.alloc (.cells #[O id,.string nme,.string tt,O kk,O ri] 55);have hZ17:=hZ16.alloc (.cells #[O id,.string nme,.string tt,O kk,O ri] 55);have hO17:=hO16.alloc aH.fair (.cells #[O id,.string nme,.string tt,O kk,O ri] 55);have hP17:=hP16.alloc aQ.fair (.cells #[O id,.string nme,.string tt,O kk,O ri] 55);have hG17:=jC hG16 (.cells #[O id,.string nme,.string tt,O kk,O ri] 55);clear h16 hF16 hX16 hZ16 hO16 hP16 hG16 hOl;go_wp2_with (at_builtin;go_must (refine bv _ rfl (.tmp 80) (.tmp 82) rfl acQ aH.fair rfl rfl hO17 (Src.one (es:=[O id,.string nme,.string tt,O kk,O ri]) (y:=ay.mk id nme tt kk ri) rfl (gI.bK rfl) rfl hB17.lies) (NoT.lt _) ?_ ?_ ?_))
       ·have:=HI.out.2.2.1;(try simp);omega
       ·have:=hG17.size;(try simp only[World.size_alloc] at this);exact this
       intro v8 w18 hO18 hg18 hv8;clear hv8;obtain⟨A8,c8,hv8,-⟩:=hO18.form;subst hv8;generalize (fs++[ay.mk id nme tt kk ri]).length=n8 at hO18 ⊢;have h18:=h17.grown hg18 (fun k e=>by have:=(hO17.lt e).1;exact⟨fun hk=>by have:=HSw.out k hk;omega,by omega⟩);have hX18:=hX17.grown hg18 (hX17.gV hO17 (by decide));have hZ18:=hZ17.grown hg18 (hZ17.gV hO17 (by decide));have hP18:=hP17.kept aQ.fair hg18 (own_ne hP17 hO17 (by decide)) (fun _ _ h=>h);have hG18:=aF hG17 hg18 (.inr (fun k e=>(hO17.lt e).1));have x2:=hX18.cell 2;have lX:=hX18.lt;have fX:=hX18.frozen 2;have hnX:¬ (S X∨X=g):=fun h=>h.elim (fun h=>by have:=HSw.out X h;omega) (fun h=>by omega)
       have h19:=h18.keep (az.setCell w18 (a:=⟨X,2,none⟩) (Value.slice A8 n8 c8) hnX);have hO19:=hO18.setCell aH.fair (p:=⟨X,2,none⟩) (Value.slice A8 n8 c8) (hX18.gV hO18 (by decide)) (fun h=>h);have hP19:=hP18.setCell aQ.fair (p:=⟨X,2,none⟩) (Value.slice A8 n8 c8) (hX18.gV hP18 (by decide)) (fun h=>h);have hX19:=hX18.gB 2 (Value.slice A8 n8 c8);have hZ19:=hZ18.far (p:=⟨X,2,none⟩) (show w.heap.size≠X by omega) (Value.slice A8 n8 c8);have hG19:=iV hG18 (p:=⟨X,2,none⟩) (.inr (show w.heap.size≤X by omega)) (Value.slice A8 n8 c8);clear h17 hX17 hZ17 hO17 hP17 hG17 hg18 h18 hX18 hZ18 hO18 hP18 hG18 hnX hB17;go_wp2_with fail;refine(htake.out _ ku _ h19).mono ?_;rintro e w20 ⟨rfl,h20,hg20⟩;have hneO9:(Value.slice A8 n8 c8).ownBlock≠some g:=fun e=>by have:=(hO19.lt e).1;omega
       have hX20:=hX19.grown hg20 (by intro e;injection e with e;omega);have hZ20:=hZ19.grown hg20 (by intro e;injection e with e;omega);have hO20:=hO19.kept aH.fair hg20 (.inr hneO9) (fun _ _ h=>h);have hP20:=hP19.kept aQ.fair hg20 (.inr hneP) (fun _ _ h=>h);have hG20:=aF hG19 hg20 (.inl rfl);have H20:=hidL h20.m;clear h19 hX19 hZ19 hO19 hP19 hG19 hg20 x2 lX fX d0 d1 d2 d3 d4 lF;go_wp2;go_roundw
       case rel =>
        obtain⟨i1,i2,i3,i4,i5⟩:=HI.out;obtain⟨k2,hk1,hk2⟩:=aak (fs:=fs) (gs:=gs) Hbad.out Hq.out Hq2.out i2;have hm:=EZ Hbad.out;have hs:=i1.field;have hqf:=akW i1;rw[Hf2.out] at hk1 hk2 hm hs hqf;have hm3:=lD (⟨q4.l,bb⟩:Rd) ku;refine⟨(⟨q4.l,bb⟩:Rd).take ku,fs++[ay.mk id nme tt kk ri],gs,Value.slice A8 n8 c8,vg,k2,h20,hX20,hZ20,hO20,hP20,hG20,(show _∧_ from⟨hs.take _,hk1,by dsimp only at hm;simp;omega,?_,by rw[i5,hk2]⟩)⟩;intro x hx;rcases List.mem_append.1 hx with hx | hx
        ·exact i4 x hx
        ·rw[List.mem_singleton.1 hx];exact hqf
       case measure =>
        have hm:=EZ Hbad.out;rw[Hf2.out] at hm;have hm3:=lD (⟨q4.l,bb⟩:Rd) ku;have e1:=H20.out;have e2:=hM.out;dsimp only at hm;omega
  all_goals
   refine(htake.out q il _ hR3).mono ?_;rintro e w4 ⟨rfl,h4,hg4⟩;have hneO:vf.ownBlock≠some g:=fun e=>by have:=(hO3.lt e).1;omega
   have hneP:vg.ownBlock≠some g:=fun e=>by have:=(hP3.lt e).1;omega
   have hX4:=hX3.grown hg4 (by intro e;injection e with e;omega);have hZ4:=hZ3.grown hg4 (by intro e;injection e with e;omega);have hO4:=hO3.kept aH.fair hg4 (.inr hneO) (fun _ _ h=>h);have hP4:=hP3.kept aQ.fair hg4 (.inr hneP) (fun _ _ h=>h);have hG4:=aF hG3 hg4 (.inl rfl);have c44:=hX4.cell 2;have lX4:=hX4.lt;clear hR3 hX3 hZ3 hO3 hP3 hG3 hneO hneP;go_wp2_with fail;refine(wz _ _ vf fs w4 hO4 (by have:=HI.out.2.2.1;omega) HI.out.2.2.2.1).mono ?_;rintro e w5 ⟨rfl,ys,hyl,hyq,hO5,hg5,hys⟩;have hX5:=hX4.grown hg5 (hX4.gV hO4 (by decide));have hZ5:=hZ4.grown hg5 (hZ4.gV hO4 (by decide));have hP5:=hP4.kept aQ.fair hg5 (own_ne hP4 hO4 (by decide)) (fun _ _ h=>h);have hG5:=aF hG4 hg5 (.inr (fun k e=>(hO4.lt e).1));have h5:=h4.grown hg5 (fun k e=>by have:=(hO4.lt e).1;exact⟨fun hk=>by have:=HSw.out k hk;omega,by omega⟩);have c55:=hX5.cell 3;have lX5:=hX5.lt;have Hyq:=hidL hyq;clear h4 hX4 hZ4 hO4 hP4 hG4 c44 lX4 hyq hg4 hg5;go_wp2_with fail;refine(Kb _ vg gs w5 hP5 (by have:=HI.out.2.2.1;omega)).mono ?_;rintro e w6 ⟨rfl,hg6,hri⟩;have hX6:=hX5.grown hg6 (hX5.gV hP5 (by decide));have hZ6:=hZ5.grown hg6 (hZ5.gV hP5 (by decide));have hO6:=hO5.kept aH.fair hg6 (own_ne hO5 hP5 (by decide)) (fun _ _ h=>h);have hG6:=aF hG5 hg6 (.inr (fun k e=>(hP5.lt e).1));have h6:=h5.grown hg6 (fun k e=>by have:=(hP5.lt e).1;exact⟨fun hk=>by have:=HSw.out k hk;omega,by omega⟩);have hnZ:¬ (S w.heap.size∨w.heap.size=g):=fun h=>h.elim (fun h=>by have:=HSw.out _ h;omega) (fun h=>by omega)
   have HR:=hidL (h6.keep (az.setCells hnZ [.string nm,.bool false,vf,vg,Z0] 0 w6));have HG:=hidL (wY (Nat.le_refl w.heap.size) [.string nm,.bool false,vf,vg,Z0] 0 w6 hG6);have HZ:=hidL (hZ6.setCells [.string nm,.bool false,vf,vg,Z0] rfl);have HF6:=hidL (JX aH.fair (hZ6.gV hO6 (by decide)) [.string nm,.bool false,vf,vg,Z0] 0 w6 hO6);have HI6:=hidL ((RSl.fair aQ.fair).mono ((RSl.fair aQ.fair).keep ((RSl.fair aQ.fair).mono (T:=fun y=>(w.heap.size≤y∧vf.ownBlock≠some y)∧y≠w.heap.size) hri (fun y e _=>⟨⟨(hP5.lt e).1,fun h=>(own_ne hO5 hP5 (by decide)).elim (fun h0=>by rw[h0] at h;cases h) (fun h0=>h0 (by rw[h,e]))⟩,fun h=>hZ5.gV hP5 (by decide) (by rw[e,h])⟩)) (az.setCells (fun h=>h.2 rfl) [.string nm,.bool false,vf,vg,Z0] 0 w6)) (fun y h _=>h.1));have Hys:=hidL hys;have Hyl:=hidL hyl;obtain⟨Av,cv,hv,-⟩:=hO6.form;obtain⟨Ag,cg,hv2,-⟩:=hP5.form;subst hv hv2;obtain⟨c0,c1,c2,c3,c4⟩:=hX6.five;obtain⟨d0,d1,d2,d3,d4⟩:=hZ6.five;have f0:=hZ6.frozen 0;have f1:=hZ6.frozen 1;have f2:=hZ6.frozen 2;have f3:=hZ6.frozen 3;have f4:=hZ6.frozen 4;have lX:=hX6.lt;have lZ:=hZ6.lt;clear hX6 hX5 hZ6 hZ5 hG6 hG5 hO6 hO5 hP5 h6 h5 hnZ hg6 hys hyl hri c55 lX5;go_wp2_with fail;change bodyPost _ _ _ _ _ (Go.Proofs.YtknnhpkjgnkcdaaGreatDoor.setCells w6 w.heap.size 0 [.string nm,.bool false,Value.slice Av ys.length cv,Value.slice Ag gs.length cg,Z0]);refine bodyPost_ret (Ol HZ.out rfl) rfl ?_;have Hr5:=HI.out.2.2.2.2;rw[Hst.out] at Hr5;refine⟨_,_,_,⟨nm,false,ys,bL ltInt gs,[]⟩,rfl,HF6.out,HI6.out,RSl.dJ,?_,?_,HG.out⟩
   ·rw[Her.out,Hr5];exact⟨rfl,rfl,by show ys.length=(bL kK fs).length;rw[Hyl.out,nu],fun h=>Hys.out (by have h':(bL kK fs).length<20:=h;rwa [nu] at h'),rfl,rfl,fun _=>rfl,⟨Hnz.out,(by show ys.length≤5000;rw[Hyl.out];have:=HI.out.2.2.1;omega),fun x hx=>(Hyq.out x hx).2.2,fun x hx=>(by cases hx)⟩⟩
   ·rw[Her.out,Hr5];exact HR.out
end Go.Proofs.YtknnhpkjgnkcdaaGreatDoor
