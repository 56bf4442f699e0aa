/- Walks and plain laws. -/
import Derived.Test.YtknnhpkjgnkcdaaGreatDoorBookGood
import Derived.Test.YtknnhpkjgnkcdaaGreatDoorLaws
import Derived.Test.YtknnhpkjgnkcdaaGreatDoorLates
import Derived.Deep.DrawnRows
import Derived.Deep.Light
set_option linter.all false
set_option maxRecDepth 100000
set_option maxHeartbeats 8000000
namespace Go.Proofs.YtknnhpkjgnkcdaaGreatDoor
section
open Go.Proofs.Tryz
open Go.RowKit
theorem Zw (k:Int)(w:World):Calls prog 155 #[O k] w (Pur w (O (kindOf k))):=by
 go_enter func155,ntmps155
 by_cases h3:k=3
 ·subst h3
  go_wp2
  go_ret;exact⟨rfl,rfl⟩
 ·have b3:(k==3)=false:=by simpa using h3
  by_cases h5:k=5
  ·subst h5
   go_wp2
   go_ret;exact⟨rfl,rfl⟩
  ·have b5:(k==5)=false:=by simpa using h5
   have e:=hidL (show kindOf k=0 from by unfold kindOf;rw[if_neg h3,if_neg h5]);clear h3 h5
   go_wp2
   go_ret;exact⟨iB (by rw[e.out]),rfl⟩
theorem Ip (k:Int)(w:World)(n:Nat):Calls prog 155 #[O k] (w.drewN n) fun e w''=>e=.returned (O (kindOf k))∧∃ m,w''=w.drewN m :=
 Calls.quiet_of_same (Zw k _)
theorem agm (s:ByteArray)(w:World)(hs:s.size≤9223372036854775807):Calls prog 161 #[.string s] w (Pur w (.bool (qG s))):=by
 go_enter func161,ntmps161;go_wp2_with fail
 go_loop [6] (fun i=>∃ k:Nat,i=O k∧k≤s.size∧Hid (((bytes s).take k).all (fun c=>decide (c.toNat<128))=true)) (fun i=>s.size-(intOf i).toNat)
 case atStart=>exact⟨0,rfl,by omega,rfl⟩
 case round =>
  obtain⟨k,rfl,hk,hn⟩:=hrel
  by_cases hlt:k<s.size
  ·by_cases hc:s[k].toNat<128
   ·go_wp2_with fail
    go_round
    case rel =>
     refine⟨k+1,by go_num,by omega,?_⟩;show _=true;rw[List.take_succ_eq_append_getElem (show k<(bytes s).length from hlt),List.all_append,hn.out];simp only[List.all_cons,List.all_nil,Bool.true_and,Bool.and_true,decide_eq_true_eq];exact hc
    case measure=>simp[intOf];omega
   ·have hf:qG s=false:=by
     have:(bytes s).all (fun c=>decide (c.toNat<128))=false:=by
      rw[List.all_eq_false];exact⟨(bytes s)[k]'hlt,List.getElem_mem _,fun h=>hc (of_decide_eq_true h)⟩
     rw[qG,this];rfl
    have Hf:=hidL hf;clear hf;have hc2:128≤s[k].toNat:=by omega
    go_wp2;go_ret;exact⟨kr Hf.out.symm,rfl⟩
  ·have hall:(bytes s).all (fun c=>decide (c.toNat<128))=true:=by
    have:=hn.out;rw[List.take_of_length_le (by rw[iY];omega)] at this;exact this
   have Hf:=hidL (show qG s=decide (s.size≤40) from by rw[qG,hall];rfl);clear hall;go_wp2;go_ret;exact⟨kr (by rw[Hf.out];first | rfl | (rw[decide_eq_decide];omega) | (rw[Bool.eq_iff_iff];simp;omega)),rfl⟩
theorem OI (S:Nat→Prop)(v:Value)(l:List Int)(n:Int)(w:World)(hl:RSl 1 8 aQ S w [v] l):Calls prog 122 #[v,O n] w (Pur w (.bool (dV l n))):=by
 obtain⟨A,cap,rfl,hlc,hlb⟩:=hl.form;have HL:=hidL hl;clear hl;go_enter func122,ntmps122;go_wp2_with fail
 go_loop [9] (fun i=>∃ k:Nat,i=O k∧k≤l.length∧Hid (dV (l.drop k) n=dV l n)) (fun i=>l.length-(intOf i).toNat)
 case atStart=>exact⟨0,rfl,by omega,rfl⟩
 case round =>
  obtain⟨k,rfl,hk,he⟩:=hrel
  by_cases hlt:k<l.length
  ·obtain⟨g,o,rfl,hS,hg⟩:=HL.out.base (by omega);have hc:=HL.out.flat (enc:=fun x:Int=>[O x]) hlt;have hd:l.drop k=l[k]::l.drop (k+1):=List.drop_eq_getElem_cons hlt;obtain⟨y,hye⟩:=exE (l[k]);rw[←hye] at hc hd;have q0:LL w g (o+k) (O y):=by have:=hc.at_ 0 rfl;simpa using this
   rw[hd] at he;have he':Hid ((decide (y=n)||dV (l.drop (k+1)) n)=dV l n):=by
    show _=_;rw[←he.out];simp[dV]
   clear hc hd hye he
   by_cases hn:y=n
   ·subst hn;have Ht:=hidL (show dV l y=true from by rw[←he'.out];simp);clear he';go_wp2;go_ret;exact⟨kr Ht.out.symm,rfl⟩
   ·have hne:(y==n)=false:=by simpa using hn
    have he2:Hid (dV (l.drop (k+1)) n=dV l n):=by show _=_;rw[←he'.out];simp[hn]
    clear he' hn;go_wp2_with fail
    go_round
    case rel=>exact⟨k+1,by go_num,by omega,he2⟩
    case measure=>simp[intOf];omega
  ·have hd:l.drop k=[]:=List.drop_eq_nil_of_le (by omega);rw[hd] at he;have Hf:=hidL (show dV l n=false from by rw[←he.out];rfl);clear hd he;go_wp2;go_ret;exact⟨kr Hf.out.symm,rfl⟩
def Two (w:World)(x y:Value)(e:Ending)(w':World):Prop:=e=.returned (.tuple #[x,y])∧Below w.heap.size w w'
theorem Dq:∀ (d:Nat) (S:Nat→Prop) (cs:List Value) (v:aj) (w:World),aD v≤d→aA S w cs v→aD v≤4611686018427387904→aW v≤4611686018427387904 →
  Calls prog 87 #[.agg cs.toArray] w (Two w (O (aD v)) (O (aW v)))
 | 0,_,_,.mk _ _ _ _ _,_,hd,_,_,_=>by rw[aD] at hd;omega
 | d+1,S,cs,.mk kind n s ids l,w,hd,hr,hdb,hcb=>by
  obtain⟨I1,d1,I2,d2,rfl,hi,hl⟩:=hr.parts;have HL:=hidL hl;have IH:=hidL (Dq d);rw[aD] at hd hdb ⊢;rw[aW] at hcb ⊢;obtain⟨_,_,_,hlc,hlb⟩:=hl.form;have hbd:∀ x∈l,aD x≤d∧aD x≤4611686018427387904∧aW x≤4611686018427387904:=fun x hx=>by
   have:=gG hx;have:=vJ hx;omega
  have HBd:=hidL hbd;clear hr hi hl hbd;go_enter func87,ntmps87;go_wp2_with fail;go_loopw [4,5,13] (fun vd vc i wr=>∃ (k D C:Nat),i=O k∧k≤l.length∧vd=O D∧vc=O C∧Hid (D=gJ (l.take k))∧Hid (C=cO (l.take k)+1)∧D≤4611686018427387904∧C≤4611686018427387904 ∧
   Below w.heap.size w wr) (fun _ _ i _=>l.length-(intOf i).toNat)
  case atStart=>exact⟨0,0,1,rfl,by omega,rfl,rfl,(by show _=_;simp[gJ]),(by show _=_;simp[cO]),by omega,by omega,(Below.refl _ _).alloc (Nat.le_refl _) _⟩
  case round =>
   obtain⟨k,D,C,rfl,hk,rfl,rfl,hD,hC,hD1,hC1,hb⟩:=hrel
   by_cases hlt:k<l.length
   ·obtain⟨g,o,rfl,hS,hg⟩:=HL.out.base (by omega);obtain⟨es,hes,hr,hc0⟩:=HL.out.lies hlt;have hc:=hc0.keep (az.of_below hb) hS;have h3:=HBd.out l[k] (List.getElem_mem hlt);have hDs:=uA l k hlt;have hCs:=uE l k hlt;have hDle:=xX l (k+1);have hCle:=xC l (k+1);obtain⟨x,hxe⟩:=exE (l[k]);rw[←hxe] at hr h3 hDs hCs;have hD2:Hid (max D (aD x)=gJ (l.take (k+1))):=by show _=_;rw[hDs,hD.out]
    have hC2:Hid (C+aW x=cO (l.take (k+1))+1):=by show _=_;rw[hCs,hC.out];omega
    have hD3:max D (aD x)≤4611686018427387904:=by rw[hD2.out];omega
    have hC3:C+aW x≤4611686018427387904:=by rw[hC2.out];omega
    obtain⟨h31,h32,h33⟩:=h3;obtain⟨dx,hdx⟩:=exE (aD x);obtain⟨cx,hcx⟩:=exE (aW x);have hcall:=fun W (hr:aA S W es x)=>IH.out S es x W h31 hr h32 h33
    rw[←hdx,←hcx] at hcall;rw[←hdx] at hD2 hD3;rw[←hcx] at hC2 hC3;obtain⟨xk,xn,xs,xi,xl⟩:=x;obtain⟨A1,c1,A2,c2,rfl,-,-⟩:=hr.parts;have q0:=hc.a0 rfl;have q1:=hc.at_ 1 rfl;have q2:=hc.at_ 2 rfl;have q3:=hc.at_ 3 rfl;have q4:=hc.at_ 4 rfl;have hgl:g<wr.heap.size:=Nat.lt_of_lt_of_le hg hb.size;have hwa:=hb.alloc hb.size (.cells (VV xk xn xs A1 xi c1 A2 xl c2).toArray 65);have Hr:=hidL (aA.fair.keep hr (az.of_below hwa));have Hcall:=hidL hcall;clear hr hc hc0 hes hxe hdx hcx hDs hCs hDle hCle hcall h31 h32 h33 hD hC;go_wp2_with fail;refine(Hcall.out _ Hr.out).mono ?_;rintro e w1 ⟨rfl,hb1⟩;have hw1:=aa hwa hb1 hwa.size
    by_cases hmx:D≤dx
    ·have hmm:max D dx=dx:=by omega
     rw[hmm] at hD2 hD3;clear hmm;go_wp2;go_roundw
     case rel=>exact⟨k+1,dx,C+cx,by go_num,by omega,(by split <;> first | rfl | (congr 1;omega)),by go_num,hD2,hC2,hD3,hC3,hw1⟩
     case measure=>simp[intOf];omega
    ·have hmm:max D dx=D:=by omega
     rw[hmm] at hD2 hD3;clear hmm;go_wp2;go_roundw
     case rel=>exact⟨k+1,D,C+cx,by go_num,by omega,(by split <;> first | rfl | (congr 1;omega)),by go_num,hD2,hC2,hD3,hC3,hw1⟩
     case measure=>simp[intOf];omega
   ·have hD2:Hid (D=gJ l):=by show _=_;rw[hD.out,List.take_of_length_le (by omega)]
    have hC2:Hid (C=cO l+1):=by show _=_;rw[hC.out,List.take_of_length_le (by omega)]
    clear hD hC;go_wp2_with fail
    go_ret2
    refine⟨?_,hb⟩;rw[←hD2.out,←hC2.out];rfl
theorem Ut (S:Nat→Prop)(cs:List Value)(v:aj)(w:World)(hr:aA S w cs v)(hd:aD v≤4611686018427387904)(hc:aW v≤4611686018427387904) :
  Calls prog 89 #[.agg cs.toArray] w (Ret w (.bool (jA v))):=by
 have Hsz:=hidL (fun W (h:aA S W cs v)=>Dq (aD v) S cs v W (Nat.le_refl _) h hd hc);have Hv:=hidL (show jA v=decide (aD v≤24∧aW v≤400) from rfl);obtain⟨dx,hdx⟩:=exE (aD v);obtain⟨cx,hcx⟩:=exE (aW v);rw[←hdx,←hcx] at Hsz Hv;rw[←hdx] at hd;rw[←hcx] at hc;obtain⟨kind,n,s,ids,l⟩:=v;obtain⟨I1,d1,I2,d2,rfl,_,_⟩:=hr.parts;have hwa:=(Below.refl w.heap.size w).alloc (Nat.le_refl _) (.cells (VV kind n s I1 ids d1 I2 l d2).toArray 65);have Hr:=hidL (aA.fair.keep hr (az.of_below hwa));clear hr hdx hcx;go_enter func89,ntmps89;go_wp2_with fail;refine(Hsz.out _ Hr.out).mono ?_;rintro e w1 ⟨rfl,hb1⟩;have hw1:=aa hwa hb1 hwa.size;clear hwa hb1 Hr
 by_cases h1:dx≤24
 ·by_cases h2:cx≤400
  ·have He:=hidL (show jA (.mk kind n s ids l)=true from by rw[Hv.out];simp[h1,h2]);go_wp2;go_ret;exact⟨kr (by rw[He.out] <;> (first | rfl | (simp;omega))),hw1⟩
  ·have He:=hidL (show jA (.mk kind n s ids l)=false from by rw[Hv.out];simp[h2]);go_wp2;go_ret;exact⟨kr (by rw[He.out] <;> (first | rfl | (simp;omega))),hw1⟩
 ·have He:=hidL (show jA (.mk kind n s ids l)=false from by rw[Hv.out];simp[h1]);go_wp2;go_ret;exact⟨kr (by rw[He.out] <;> (first | rfl | (simp;omega))),hw1⟩
theorem aaL {b:av}{f:ay}{v:aj}(h:v.kind≠kindOf f.kind):eO b f v=5:=by unfold eO;rw[if_pos h]
theorem abF {b:av}{f:ay}{v:aj}(h:v.kind=kindOf f.kind)(ho:vV v=true):eO b f v=1:=by unfold eO;rw[if_neg (by simpa using h),if_pos ho]
theorem ael {b:av}{f:ay}{v:aj}(h:v.kind=kindOf f.kind)(ho:vV v=false):eO b f v =
  if f.kind=1 then (if v.n=0∨v.n=1 then 0 else 6) else if f.kind=2 then (if v.n < -1099511627776∨1099511627776<v.n then 2 else 0)
  else if f.kind=3 then (if qG v.s=true then 0 else 1) else if f.kind=4 then (if jT (typeOf b f.type) v.n=true then 0 else 6) else 0:=by
 unfold eO;rw[if_neg (by simpa using h),if_neg (by rw[ho];decide)];rfl
theorem ajj {k:Int}(h3:k≠3)(h5:k≠5):kindOf k=0:=by unfold kindOf;rw[if_neg h3,if_neg h5]
theorem aaP (S S':Nat→Prop)(vb:Value)(b:av)(f:ay)(cs:List Value)(v:aj)(w:World)(hb0:RSl 5 96 ah S w [vb] b)(hr:aA S' w cs v)(ho:v.s.size≤140737488351232) :
  Calls prog 121 #[.agg #[vb],.agg (FF f.id f.name f.type f.kind f.rule).toArray,.agg cs.toArray] w (Ret w (O (eO b f v))):=by
 obtain⟨A,cap,rfl,hlc,hlb⟩:=hb0.form;have Hno1:=hidL (@aaL b f v);have Hno2:=hidL (@abF b f v);have Hon:=hidL (@ael b f v);have Hodd:=hidL (@rD v);obtain⟨r,hrr⟩:=exE (eO b f v);obtain⟨od,hod⟩:=exE (vV v);rw[←hrr] at Hno1 Hno2 Hon ⊢;rw[←hod] at Hno2 Hon Hodd;obtain⟨fid,fname,ftype,fkind,frule⟩:=f;obtain⟨kind,n,s,ids,l⟩:=v;obtain⟨I1,d1,I2,d2,rfl,hri,hrl⟩:=hr.parts;simp only[aj.kind,aj.n,aj.s,aj.ids,aj.l] at Hno1 Hno2 Hon Hodd ho ⊢;have HB:=hidL hb0;obtain⟨_,_,_,hic,hib⟩:=hri.form;obtain⟨_,_,_,hlc2,hlb2⟩:=hrl.form;clear hb0 hr hri hrl hrr hod;have hw3:Below w.heap.size w (((w.alloc (.cells #[.slice A b.length cap] 38)).alloc (.cells (FF fid fname ftype fkind frule).toArray 55)).alloc (.cells (VV kind n s I1 ids d1 I2 l d2).toArray 65)) :=
  (((Below.refl _ _).alloc (Nat.le_refl _) _).alloc (by simp) _).alloc (by simp;omega) _
 go_enter func121,ntmps121;obtain⟨kk,hkk⟩:=exE (kindOf fkind);have hkq:=fun W n=>Ip fkind W n
 rw[←hkk] at hkq Hno1 Hno2 Hon;have HKQ:=hidL hkq;clear hkq
 by_cases hk:kind=kk
 ·subst hk;have hkb:(kind != kind)=false:=by simp
  by_cases h3:fkind=3
  ·subst h3;have hk1:kind=1:=hkk.trans rfl;clear hkk;subst hk1;cases od with
   | true =>
    have Hf:=hidL (Hno2.out rfl rfl)
    by_cases hx:0<ids.length+l.length
    ·have hx':(0:Int)<(ids.length:Int)+l.length:=by omega
     clear hx;go_wp2_with fail
     go_quiet ((go_at_call 155;exact HKQ.out _ _))
     go_wp2;go_ret;exact⟨iB (by rw[Hf.out]),below_drewN hw3 _⟩
    ·have hx':¬ (0:Int)<(ids.length:Int)+l.length:=by omega
     have hn:n≠0:=fun h=>by
      have:=Hodd.out.2 ⟨fun _=>⟨List.eq_nil_of_length_eq_zero (by omega),List.eq_nil_of_length_eq_zero (by omega)⟩,fun _=>h,fun h=>absurd rfl h⟩;cases this
     have hnb:(n != 0)=true:=by simpa using hn
     clear hx hn;go_wp2_with fail
     go_quiet ((go_at_call 155;exact HKQ.out _ _))
     go_wp2;go_ret;exact⟨iB (by rw[Hf.out]),below_drewN hw3 _⟩
   | false =>
    obtain⟨e1,e2,_⟩:=Hodd.out.1 rfl;obtain⟨rfl,rfl⟩:=e1 (by decide);obtain rfl:=e2 (by decide);have hf:=Hon.out rfl rfl;clear e1 e2;rw[if_neg (by decide),if_neg (by decide),if_pos rfl] at hf;have Hft:=hidL (fun h:qG s=true=>hf.trans (if_pos h));have Hff:=hidL (fun h:¬ qG s=true=>hf.trans (if_neg h));clear hf;go_wp2_with fail
    go_quiet ((go_at_call 155;exact HKQ.out _ _))
    go_wp2_with fail;refine(agm s _ (by omega)).mono ?_;rintro e w1 ⟨rfl,rfl⟩;cases hp:qG s with
    | true =>
     have Hf:=hidL (Hft.out hp);clear hp;go_wp2;go_ret;exact⟨iB (by rw[Hf.out]),below_drewN hw3 _⟩
    | false =>
     have Hf:=hidL (Hff.out (by rw[hp];decide));clear hp;go_wp2;go_ret;exact⟨iB (by rw[Hf.out]),below_drewN hw3 _⟩
  ·by_cases h5:fkind=5
   ·subst h5;have hk1:kind=2:=hkk.trans rfl;clear hkk;subst hk1;cases od with
    | true =>
     have Hf:=hidL (Hno2.out rfl rfl)
     by_cases hx:n=0
     ·subst hx;have hs:(s.toList==[])=false:=by
       cases hq:s.toList with
       | nil =>
        have:=Hodd.out.2 ⟨fun h=>absurd rfl h,fun _=>rfl,fun _=>by rw[ByteArray.toList_eq] at hq;exact congrArg List.length hq⟩;cases this
       | cons a l=>rfl
      go_wp2_with fail
      go_quiet ((go_at_call 155;exact HKQ.out _ _))
      go_wp2;go_ret;exact⟨iB (by rw[Hf.out]),below_drewN hw3 _⟩
     ·have hnb:(n != 0)=true:=by simpa using hx
      clear hx;go_wp2_with fail
      go_quiet ((go_at_call 155;exact HKQ.out _ _))
      go_wp2;go_ret;exact⟨iB (by rw[Hf.out]),below_drewN hw3 _⟩
    | false =>
     obtain⟨_,e2,e3⟩:=Hodd.out.1 rfl;obtain rfl:=e2 (by decide);obtain rfl:=qH (e3 (by decide));have hf:=Hon.out rfl rfl;clear e2 e3;rw[if_neg (by decide),if_neg (by decide),if_neg (by decide),if_neg (by decide)] at hf;have Hf:=hidL hf;clear hf;go_wp2_with fail
     go_quiet ((go_at_call 155;exact HKQ.out _ _))
     go_wp2;go_ret;exact⟨iB (by rw[Hf.out]),below_drewN hw3 _⟩
   ·have hk1:kind=0:=hkk.trans (ajj h3 h5);have b3:(fkind==3)=false:=by simpa using h3
    have b5:(fkind==5)=false:=by simpa using h5
    have Hon2:Hid (od=false→r=if fkind=1 then (if n=0∨n=1 then 0 else 6) else if fkind=2 then (if n < -1099511627776∨1099511627776<n then 2 else 0) else if fkind=4 then (if jT (typeOf b ftype) n=true then 0 else 6) else 0):=fun h=>by
     have:=Hon.out rfl h;rw[this];simp only[if_neg h3];rfl
    clear hkk h3 h5;subst hk1;cases od with
    | true =>
     have Hf:=hidL (Hno2.out rfl rfl)
     by_cases hx:0<ids.length+l.length
     ·have hx':(0:Int)<(ids.length:Int)+l.length:=by omega
      clear hx;go_wp2_with fail
      go_quiet ((go_at_call 155;exact HKQ.out _ _))
      go_wp2;go_ret;exact⟨iB (by rw[Hf.out]),below_drewN hw3 _⟩
     ·have hx':¬ (0:Int)<(ids.length:Int)+l.length:=by omega
      have hs:(s.toList==[])=false:=by
       cases hq:s.toList with
       | nil =>
        have:=Hodd.out.2 ⟨fun _=>⟨List.eq_nil_of_length_eq_zero (by omega),List.eq_nil_of_length_eq_zero (by omega)⟩,fun h=>absurd rfl h,fun _=>by rw[ByteArray.toList_eq] at hq;exact congrArg List.length hq⟩;cases this
       | cons a l=>rfl
      clear hx;go_wp2_with fail
      go_quiet ((go_at_call 155;exact HKQ.out _ _))
      go_wp2;go_ret;exact⟨iB (by rw[Hf.out]),below_drewN hw3 _⟩
    | false =>
     obtain⟨e1,_,e3⟩:=Hodd.out.1 rfl;obtain⟨rfl,rfl⟩:=e1 (by decide);obtain rfl:=qH (e3 (by decide));have hf:=Hon2.out rfl;clear e1 e3
     by_cases h1:fkind=1
     ·subst h1;rw[if_pos rfl] at hf
      by_cases hn:n=0∨n=1
      ·rw[if_pos hn] at hf;have Hf:=hidL hf;clear hf;rcases hn with rfl | rfl
       ·go_wp2_with fail
        go_quiet ((go_at_call 155;exact HKQ.out _ _))
        go_wp2;go_ret;exact⟨iB (by rw[Hf.out]),below_drewN hw3 _⟩
       ·go_wp2_with fail
        go_quiet ((go_at_call 155;exact HKQ.out _ _))
        go_wp2;go_ret;exact⟨iB (by rw[Hf.out]),below_drewN hw3 _⟩
      ·rw[if_neg hn] at hf;have Hf:=hidL hf;have n0:(n != 0)=true:=by simp;omega
       have n1:(n != 1)=true:=by simp;omega
       clear hf hn;go_wp2_with fail
       go_quiet ((go_at_call 155;exact HKQ.out _ _))
       go_wp2;go_ret;exact⟨iB (by rw[Hf.out]),below_drewN hw3 _⟩
     ·rw[if_neg h1] at hf;have b1:(fkind==1)=false:=by simpa using h1
      clear h1
      by_cases h2:fkind=2
      ·subst h2;rw[if_pos rfl] at hf
       by_cases ha:n < -1099511627776
       ·rw[if_pos (.inl ha)] at hf;have Hf:=hidL hf;clear hf;go_wp2_with fail
        go_quiet ((go_at_call 155;exact HKQ.out _ _))
        go_wp2;go_ret;exact⟨iB (by rw[Hf.out]),below_drewN hw3 _⟩
       ·by_cases hb:1099511627776<n
        ·rw[if_pos (.inr hb)] at hf;have Hf:=hidL hf;clear hf;go_wp2_with fail
         go_quiet ((go_at_call 155;exact HKQ.out _ _))
         go_wp2;go_ret;exact⟨iB (by rw[Hf.out]),below_drewN hw3 _⟩
        ·rw[if_neg (by omega)] at hf;have Hf:=hidL hf;clear hf;go_wp2_with fail
         go_quiet ((go_at_call 155;exact HKQ.out _ _))
         go_wp2;go_ret;exact⟨iB (by rw[Hf.out]),below_drewN hw3 _⟩
      ·rw[if_neg h2] at hf;have b2:(fkind==2)=false:=by simpa using h2
       clear h2
       by_cases h4:fkind=4
       ·subst h4;rw[if_pos rfl] at hf;have Hft:=hidL (fun h:jT (typeOf b ftype) n=true=>hf.trans (if_pos h));have Hff:=hidL (fun h:¬ jT (typeOf b ftype) n=true=>hf.trans (if_neg h));clear hf;go_wp2_with fail
        go_quiet ((go_at_call 155;exact HKQ.out _ _))
        go_wp2_with fail;have hwq:=below_drewN hw3 nq;have hbx:Box ((((w.alloc (.cells #[.slice A b.length cap] 38)).alloc (.cells (FF fid fname ftype 4 frule).toArray 55)).alloc (.cells #[O 0,O n,E0,.slice I1 0 d1,.slice I2 0 d2] 65)).drewN nq) (w.heap.size+2) 65 [O 0,O n,E0,.slice I1 0 d1,.slice I2 0 d2]:=by
         have:=Box.new ((w.alloc (.cells #[.slice A b.length cap] 38)).alloc (.cells (FF fid fname ftype 4 frule).toArray 55)) 65 [O 0,O n,E0,.slice I1 0 d1,.slice I2 0 d2];have:=this.drewN nq;simpa using this
        refine(gH S _ b ftype _ ((RSl.fair ah.fair).below HB.out hwq)).mono ?_;rintro e w1 ⟨cs3,rfl,hr3,hb1⟩;obtain⟨B1,l1,B2,l2,B3,l3,rfl,-,-,-⟩:=hr3.parts;have hw1:=aa hwq hb1 hwq.size;have hbx1:=hbx.below hb1 hbx.lt;have x1:LL w1 (w.heap.size+2) 1 (O n):=hbx1.cell 1;have hxl1:w.heap.size+2<w1.heap.size:=hbx1.lt;obtain⟨ty,hty⟩:=exE ((aM b ftype).getD ax.zero);have htf:typeOf b ftype=ty:=hty.symm;rw[←hty] at hr3 ⊢;rw[htf] at Hft Hff;obtain⟨ok,hok⟩:=exE ((aM b ftype).isSome);rw[←hok];have hmean:=fun W (h:ah S W (TT ty B1 l1 B2 l2 B3 l3) ty)=>KF S _ ty n W h
        obtain⟨m,hm⟩:=exE (jT ty n);rw[←hm] at Hft Hff hmean;have hwz:=hw1.alloc hw1.size (.cells (TT ty B1 l1 B2 l2 B3 l3).toArray 53);have HR3:=hidL (ah.fair.keep hr3 ((az.of_below hb1).trans (az.alloc S w1 (.cells (TT ty B1 l1 B2 l2 B3 l3).toArray 53))));have HM:=hidL hmean;obtain⟨tyn,tye,tyf,tyg,tyi⟩:=ty;clear hbx hbx1 hb1 hw1 hwq hty htf hok hm hmean hr3;go_wp2_with fail;refine(HM.out _ HR3.out).mono ?_;rintro e w2 ⟨rfl,hb2⟩;have hw2:=aa hwz hb2 hwz.size;clear hwz hb2 HR3 HM x1;cases m with
        | true =>
         have Hf:=hidL (Hft.out rfl);go_wp2;go_ret;exact⟨iB (by rw[Hf.out]),hw2⟩
        | false =>
         have Hf:=hidL (Hff.out (by decide));go_wp2;go_ret;exact⟨iB (by rw[Hf.out]),hw2⟩
       ·rw[if_neg h4] at hf;have b4:(fkind==4)=false:=by simpa using h4
        have Hf:=hidL hf;clear h4 hf;go_wp2_with fail
        go_quiet ((go_at_call 155;exact HKQ.out _ _))
        go_wp2;go_ret;exact⟨iB (by rw[Hf.out]),below_drewN hw3 _⟩
 ·have Hf:=hidL (Hno1.out hk);have hkb:(kind != kk)=true:=by simpa using hk
  clear hk hkk;go_wp2_with fail
  go_quiet ((go_at_call 155;exact HKQ.out _ _))
  go_wp2
  go_ret;exact⟨iB (by rw[Hf.out]),below_drewN hw3 _⟩
theorem qh:dK prog 42 3 1 8:=dK.mk (z:=O 0) underlying42 (by decide) (by decide) (by kernel_rfl) rfl
theorem nJ:dK prog 63 65 5 80:=dK.mk (z:=.agg #[O 0,O 0,.string .empty,Z0,Z0]) underlying63 (by decide) (by decide) (by kernel_rfl) rfl
def Apart (U:Nat→Prop)(g:Nat)(vi vl:Value):Nat→Prop:=fun x=>x≠g∧vi.ownBlock≠some x∧vl.ownBlock≠some x∧U x
structure cZ (U:Nat→Prop) (base:Nat) (w:World) (g:Nat) (vi vl:Value) (ids:List Int) (l:List aj):Prop where
 hi:g<base
 hb:base≤w.heap.size
 ids:Own base 3 1 aQ NoT w vi ids
 l:Own base 65 5 aA (Apart U g vi vl) w vl l
 nil:∀ x,vi.ownBlock=some x→vl.ownBlock≠some x
section
variable {U:Nat→Prop}{base:Nat}{w w':World}{g:Nat}{vi vl v':Value}{ids:List Int}{l:List aj}
theorem cZ.new (U:Nat→Prop)(base:Nat)(w:World)(g:Nat)(hb:g<base)(hg:base≤w.heap.size):cZ U base w g (Z0) (Z0) [] [] :=
 ⟨hb,hg,Own.dJ _ _ _ _ _ _,Own.dJ _ _ _ _ _ _,by simp[Value.ownBlock]⟩
theorem cZ.below (h:cZ U base w g vi vl ids l)(hb:Below w.heap.size w w'):cZ U base w' g vi vl ids l :=
 ⟨h.hi,Nat.le_trans h.hb hb.size,h.ids.below aQ.fair hb,h.l.below aA.fair hb,h.nil⟩
theorem cZ.alloc (h:cZ U base w g vi vl ids l)(o:Obj):cZ U base (w.alloc o) g vi vl ids l:=h.below ((Below.refl _ _).alloc (Nat.le_refl _) o)
theorem cZ.drewN (h:cZ U base w g vi vl ids l)(n:Nat):cZ U base (w.drewN n) g vi vl ids l:=h.below (below_drewN (Below.refl _ _) n)
theorem cZ.drew (h:cZ U base w g vi vl ids l):cZ U base w.drew g vi vl ids l:=h.below (au (Below.refl _ _))
theorem cZ.ilt (h:cZ U base w g vi vl ids l){x:Nat}(hx:vi.ownBlock=some x):base≤x∧x<w.heap.size:=h.ids.lt hx
theorem cZ.llt (h:cZ U base w g vi vl ids l){x:Nat}(hx:vl.ownBlock=some x):base≤x∧x<w.heap.size:=h.l.lt hx
theorem cZ.nei (h:cZ U base w g vi vl ids l){x:Nat}(hx:x<base):vi.ownBlock≠some x:=fun e=>by have:=(h.ilt e).1;omega
theorem cZ.nel (h:cZ U base w g vi vl ids l){x:Nat}(hx:x<base):vl.ownBlock≠some x:=fun e=>by have:=(h.llt e).1;omega
theorem cZ.setCell (h:cZ U base w g vi vl ids l)(i:Nat)(u:Value):cZ U base (w.setCell ⟨g,i,none⟩ u) g vi vl ids l :=
 ⟨h.hi,by have:=h.hb;simpa[World.setCell] using this,h.ids.setCell aQ.fair u (h.nei h.hi) (fun h=>h.elim),h.l.setCell aA.fair u (h.nel h.hi) (fun hh=>hh.1 rfl),h.nil⟩
theorem cZ.far (h:cZ U base w g vi vl ids l){p:Addr}(hi:vi.ownBlock≠some p.block)(hl:vl.ownBlock≠some p.block)(hT:¬ U p.block)(u:Value):cZ U base (w.setCell p u) g vi vl ids l :=
 ⟨h.hi,by have:=h.hb;simpa[World.setCell] using this,h.ids.setCell aQ.fair u hi (fun h=>h.elim),h.l.setCell aA.fair u hl (fun hh=>hT hh.2.2.2),h.nil⟩
theorem cZ.low (h:cZ U base w g vi vl ids l):cZ (fun y=>U y∧y<w.heap.size) base w g vi vl ids l :=
 ⟨h.hi,h.hb,h.ids,h.l.mono aA.fair (fun x hx hl=>⟨hx.1,hx.2.1,hx.2.2.1,hx.2.2.2,hl⟩) (fun k hk hh=>hh.2.2.1 hk),h.nil⟩
theorem cZ.up {U':Nat→Prop}(h:cZ U base w g vi vl ids l)(hU:∀ y,U y→U' y):cZ U' base w g vi vl ids l :=
 ⟨h.hi,h.hb,h.ids,h.l.mono aA.fair (fun x hx _=>⟨hx.1,hx.2.1,hx.2.2.1,hU x hx.2.2.2⟩) (fun k hk hh=>hh.2.2.1 hk),h.nil⟩
theorem cZ.Fh (h:cZ U base w g vi vl ids l){ids':List Int}(ho:Own base 3 1 aQ NoT w' v' ids')(hg:w.grownBy w' vi.ownBlock)(hv:v'.ownBlock=vi.ownBlock∨v'.ownBlock=some w.heap.size):cZ U base w' g v' vl ids' l:=by
 refine⟨h.hi,Nat.le_trans h.hb hg.size,ho,?_,?_⟩
 ·have h1:Own base 65 5 aA (fun x=>Apart U g vi vl x∧x<w.heap.size) w vl l:=h.l.mono aA.fair (fun x hx hl=>⟨hx,hl⟩) (fun k hk hh=>hh.1.2.2.1 hk);have h2:Own base 65 5 aA (fun x=>Apart U g vi vl x∧x<w.heap.size) w' vl l:=h1.kept aA.fair hg (by
   cases hvi:vi.ownBlock with
   | none=>cases hvl:vl.ownBlock <;> simp
   | some x=>exact .inr (h.nil x hvi)) (fun k hk hh=>hh.1.2.1 hk)
  refine h2.mono aA.fair (fun x hx _=>⟨hx.1.1,?_,hx.1.2.2.1,hx.1.2.2.2⟩) (fun k hk hh=>hh.2.2.1 hk);rcases hv with hv | hv
  ·rw[hv];exact hx.1.2.1
  ·rw[hv];intro e;injection e with e;omega
 ·intro x hx hl;rcases hv with hv | hv
  ·exact h.nil x (hv ▸ hx) hl
  ·rw[hv] at hx;injection hx with hx
   have:=(h.llt hl).2;omega
theorem cZ.Tp (h:cZ U base w g vi vl ids l):Own base 65 5 aA (fun x=>Apart U g vi vl x∧x<w.heap.size) w vl l:=h.l.mono aA.fair (fun x hx hl=>⟨hx,hl⟩) (fun k hk hh=>hh.1.2.2.1 hk)
theorem cZ.zA (h:cZ U base w g vi vl ids l){l':List aj}(ho:Own base 65 5 aA (fun x=>Apart U g vi vl x∧x<w.heap.size) w' v' l')(hg:w.grownBy w' vl.ownBlock)(hv:v'.ownBlock=vl.ownBlock∨v'.ownBlock=some w.heap.size):cZ U base w' g vi v' ids l':=by
 refine⟨h.hi,Nat.le_trans h.hb hg.size,?_,?_,?_⟩
 ·exact h.ids.kept aQ.fair hg (by
   cases hvi:vi.ownBlock with
   | none=>exact .inl rfl
   | some x=>exact .inr (fun e=>h.nil x hvi e.symm)) (fun k _ hh=>hh)
 ·refine ho.mono aA.fair (fun x hx _=>⟨hx.1.1,hx.1.2.1,?_,hx.1.2.2.2⟩) (fun k hk hh=>hh.2.2.1 hk);rcases hv with hv | hv
  ·rw[hv];exact hx.1.2.2.1
  ·rw[hv];intro e;injection e with e;omega
 ·intro x hx hl;rcases hv with hv | hv
  ·exact h.nil x hx (hv ▸ hl)
  ·rw[hv] at hl;injection hl with hl
   have:=(h.ilt hx).2;omega
theorem cZ.apart {w0:World}(h:cZ U base w0 g vi vl ids l){S:Nat→Prop}{cs:List Value}{x:aj}(hr:aA S w cs x)(hS:∀ y,S y→y<w.heap.size→(w0.heap.size≤y∨(y<base∧y≠g))∧U y):aA (fun y=>Apart U g vi vl y∧y<w.heap.size) w cs x :=
 aA.fair.mono hr fun y hy hl=>by
  obtain⟨hS,hU⟩:=hS _ hy hl;refine⟨⟨?_,?_,?_,hU⟩,hl⟩
  ·rintro rfl;have:=h.hi;have:=h.hb;rcases hS with h1 | h1 <;> omega
  ·intro e;have:=h.ilt e;rcases hS with h1 | h1 <;> omega
  ·intro e;have:=h.llt e;rcases hS with h1 | h1 <;> omega
end
theorem cZ.read {U:Nat→Prop}{base:Nat}{w:World}{g:Nat}{vi vl:Value}{ids:List Int}{l:List aj}(h:cZ U base w g vi vl ids l){S:Nat→Prop}(hS:∀ y,base≤y→S y)(hA:∀ y,U y→S y)(hi:ids.length≤1000000000000)(hl:l.length≤1000000000000)(k n:Int)(s:ByteArray) :
  aA S w [O k,O n,.string s,vi,vl] (.mk k n s ids l) :=
 aA.mk (h.ids.read aQ.fair (fun _ h=>h.elim) (fun x hx=>hS x (h.ilt hx).1) (by omega)) (h.l.read aA.fair (fun y hy _=>hA y hy.2.2.2) (fun x hx=>hS x (h.llt hx).1) (by omega))
theorem cZ.fq {U:Nat→Prop}{base:Nat}{g g':Nat}{vi vl:Value}{ids:List Int}{l:List aj}(hi:vi.ownBlock≠some g')(hl:vl.ownBlock≠some g')(hT:¬ U g'):∀ (bs:List Value) (i:Nat) {w:World},cZ U base w g vi vl ids l→cZ U base (Go.Proofs.YtknnhpkjgnkcdaaGreatDoor.setCells w g' i bs) g vi vl ids l
 | [],_,_,h=>h
 | b::bs,i,_,h=>cZ.fq hi hl hT bs (i+1) (h.far (p:=⟨g',i,none⟩) hi hl hT b)
theorem cZ.QV {U:Nat→Prop}{base:Nat}{w:World}{g:Nat}{vi vl:Value}{ids:List Int}{l:List aj}(_:cZ U base w g vi vl ids l){S:Nat→Prop}{cs:List Value}{x:aj}(hr:aA S w cs x)
  (hS:∀ y,S y→y≠g∧vi.ownBlock≠some y∧vl.ownBlock≠some y∧U y):aA (fun y=>Apart U g vi vl y∧y<w.heap.size) w cs x:=aA.fair.mono hr fun y hy hl=>⟨hS y hy,hl⟩
end
section
open Go.Proofs.Tryz
open Go.RowKit
attribute [local go_sem ↓] Go.wp_at_zero Go.wp_at_succ
def wC (w:World)(v:aj)(e:Ending)(w':World):Prop:=∃ cs,e=.returned (.agg cs.toArray)∧aA (New w) w' cs v∧Below w.heap.size w w'
def Vz (S:Nat→Prop)(vb:Value)(b:av)(k:Nat):Prop:=∀ (f:ay) (w:World),RSl 5 96 ah S w [vb] b→iC b f→yE b k f →
 Calls prog 159 #[.agg #[vb],.agg (FF f.id f.name f.type f.kind f.rule).toArray] w (wC w (aL b k f))
def lK (t:ax)(k:Nat):List ay:=(t.fields.take k).filter fun g=>decide (g.rule=1)
theorem Qo {t:ax}{k:Nat}(h:t.fields.length≤k):lK t k=jU t:=by unfold lK jU;rw[List.take_of_length_le h]
theorem Rw {t:ax}{k:Nat}(h:k<t.fields.length)(hr:t.fields[k].rule=1):lK t (k+1)=lK t k++[t.fields[k]]:=by
 unfold lK;rw[List.take_succ_eq_append_getElem h,List.filter_append];simp[hr]
theorem VT {t:ax}{k:Nat}(h:k<t.fields.length)(hr:¬ t.fields[k].rule=1):lK t (k+1)=lK t k:=by
 unfold lK;rw[List.take_succ_eq_append_getElem h,List.filter_append];simp[hr]
theorem Cj (t:ax)(k:Nat):(lK t k).length≤t.fields.length:=by
 unfold lK;exact Nat.le_trans (List.length_filter_le _ _) (List.length_take_le' _ _)
theorem Tj {W:World}{a:Act}{g:Nat}{c0 c1 c2 c3 c4:Value}(hb:Box W g 65 [c0,c1,c2,c3,c4])(h4:a.tmps.getD 4 undef=.pointer (some ⟨g,0,none⟩)) :
  (results f197 a.tmps).run prog W=.ok (.agg #[c0,c1,c2,c3,c4]) W:=by
 obtain⟨e0,e1,e2,e3,e4⟩:=hb.five;simp only[Array.getD_eq_getD_getElem?] at h4;simp[results,results197,go_sem,h4,e0,e1,e2,e3,e4]
theorem Cw {W:World}{a:Act}{g:Nat}{c0 c1 c2 c3 c4:Value}(hb:Box W g 65 [c0,c1,c2,c3,c4])(h4:a.tmps.getD 4 undef=.pointer (some ⟨g,0,none⟩)) :
  (results f159 a.tmps).run prog W=.ok (.agg #[c0,c1,c2,c3,c4]) W:=by
 obtain⟨e0,e1,e2,e3,e4⟩:=hb.five;simp only[Array.getD_eq_getD_getElem?] at h4;simp[results,results159,go_sem,h4,e0,e1,e2,e3,e4]
theorem QA (S:Nat→Prop)(vb:Value)(b:av)(k:Nat)(H:Vz S vb b k)(cs:List Value)(t:ax)(w:World)(hb0:RSl 5 96 ah S w [vb] b)(ht:ah S w cs t)(hm:dU b t)(he:∀ f∈jU t,yE b k f) :
  Calls prog 197 #[.agg #[vb],.agg cs.toArray] w (wC w (iE b k t)):=by
 obtain⟨A,cap,rfl,hlc,hlb⟩:=hb0.form;obtain⟨A1,k1,A2,k2,A3,k3,rfl,hf,hgn,hi⟩:=ht.parts;have h5:t.fields.length≤5:=hm.1;have HB:=hidL hb0;have HF:=hidL hf;have HH:=hidL H;have HM:=hidL hm;have HE:=hidL he;clear hb0 ht hf hgn hi H hm he;go_enter func197,ntmps197;go_wp2_with fail;go_loopw [12] (fun i wr=>∃ (n:Nat) (vi vl:Value),i=O n∧n≤t.fields.length∧cZ (fun y=>w.heap.size+1+1+1+1≤y) (w.heap.size+1+1+1+1) wr (w.heap.size+1+1+1) vi vl ((lK t n).map (·.id)) ((lK t n).map (aL b k)) ∧
   Box wr (w.heap.size+1+1+1) 65 [O 2,O 0,E0,vi,vl]∧Box wr (w.heap.size+1+1) 65 [O 0,O 0,E0,Z0,Z0]∧Box wr w.heap.size 38 [.slice A b.length cap]∧Below w.heap.size w wr) (fun i _=>t.fields.length-(intOf i).toNat)
 case atStart =>
  obtain⟨x1,x2,x3,x4,x5⟩:=rQ w [.slice A b.length cap] (TT t A1 k1 A2 k2 A3 k3) [O 0,O 0,E0,Z0,Z0] [O 2,O 0,E0,Z0,Z0] 38 53 65 65;exact⟨0,Z0,Z0,rfl,by go_light;omega,cZ.new _ _ _ _ (by go_light;omega) (by simp),x4,x3,x1,x5⟩
 case round =>
  obtain⟨n,vi,vl,rfl,hn,hro,hbv,hbr,hbb,hb⟩:=hrel
  by_cases hlt:n<t.fields.length
  ·obtain⟨g,o,rfl,hS,hg⟩:=HF.out.base (by go_light;omega);have hc:=(HF.out.flat (enc:=aI) hlt).keep (az.of_below hb) hS;have hyes:=fun h=>Rw hlt h
   have hno:=fun h=>VT hlt h
   have hfp:iC b t.fields[n]:=bC HM.out (List.getElem_mem hlt);have hen:t.fields[n].rule=1→yE b k t.fields[n]:=fun h=>HE.out _ (mY.2 ⟨List.getElem_mem hlt,h⟩)
   obtain⟨f0,hxe⟩:=exE (t.fields[n]);rw[←hxe] at hc hyes hno hfp hen;have hcall:=fun W (h:RSl 5 96 ah S W [.slice A b.length cap] b) (h1:f0.rule=1)=>HH.out f0 W h hfp (hen h1)
   obtain⟨fid,fname,ftype,fkind,frule⟩:=f0;have q0:=hc.a0 rfl;have q1:=hc.at_ 1 rfl;have q2:=hc.at_ 2 rfl;have q3:=hc.at_ 3 rfl;have q4:=hc.at_ 4 rfl;have hgl:g<wr.heap.size:=Nat.lt_of_lt_of_le hg hb.size;have Hxe:=hidL hxe;have Hyes:=hidL hyes;have Hno:=hidL hno;have Hcall:=hidL hcall;dsimp only at Hyes Hno Hcall;clear hc hxe hyes hno hfp hen hcall;have hwa:=hb.alloc hb.size (.cells (FF fid fname ftype fkind frule).toArray 55);have hrow:=hro.alloc (.cells (FF fid fname ftype fkind frule).toArray 55);have hbvn:=hbv.alloc (.cells (FF fid fname ftype fkind frule).toArray 55);have hbrn:=hbr.alloc (.cells (FF fid fname ftype fkind frule).toArray 55);have hbbn:=hbb.alloc (.cells (FF fid fname ftype fkind frule).toArray 55);have hxn:Box (wr.alloc (.cells (FF fid fname ftype fkind frule).toArray 55)) wr.heap.size 55 (FF fid fname ftype fkind frule):=Box.new wr _ _
   by_cases hr1:frule=1
   ·have Hon:=hidL (Hyes.out hr1);have Hc:=hidL (fun W h=>Hcall.out W h hr1);have HBn:=hidL ((RSl.fair ah.fair).below HB.out hwa);have hrb:(frule==1)=true:=by simpa using hr1
    clear hr1 Hyes Hno Hcall hro hbv hbr hbb;have hln:(lK t n).length≤5:=Nat.le_trans (Cj t n) h5;obtain⟨ids,hids⟩:=exE ((lK t n).map (·.id));obtain⟨ls,hls⟩:=exE ((lK t n).map (aL b k));have hidl:ids.length≤5:=by rw[hids,List.length_map];exact hln
    have hlsl:ls.length≤5:=by rw[hls,List.length_map];exact hln
    rw[←hids,←hls] at hrow;have Hids:=hidL hids;have Hls:=hidL hls;clear hids hls hln;obtain⟨⟨lk,ln,lt,li,ll⟩,hlf⟩:∃ x,x=aL b k ⟨fid,fname,ftype,fkind,frule⟩:=⟨_,rfl⟩;rw[←hlf] at Hc;have Hlf:=hidL hlf;clear hlf;go_wp2_with fail;have hsz0:wr.heap.size<(wr.alloc (.cells (FF fid fname ftype fkind frule).toArray 55)).heap.size:=hxn.lt;generalize hW0:wr.alloc (.cells (FF fid fname ftype fkind frule).toArray 55)=W0 at *;generalize hX:wr.heap.size=X at *;clear hW0 hX;have SK:∀ W',Box W' (w.heap.size+1+1+1) 65 [O 2,O 0,E0,vi,vl]→Box W' X 55 (FF fid fname ftype fkind frule)→Box W' w.heap.size 38 [.slice A b.length cap] →
      ((LL W' (w.heap.size+1+1+1) 3 vi∧LL W' (w.heap.size+1+1+1) 4 vl)∧(LL W' X 0 (O fid)∧LL W' X 1 (.string fname)∧LL W' X 2 (.string ftype)∧LL W' X 3 (O fkind)∧LL W' X 4 (O frule))∧LL W' w.heap.size 0 (.slice A b.length cap)) :=
     fun W' h1 h2 h3=>⟨⟨h1.cell 3,h1.cell 4⟩,h2.five,h3.cell 0⟩
    have HSK:=hidL SK;clear SK;have hrow0:=hrow.drew;have hS:=HSK.out W0.drew hbvn.drew hxn.drew hbbn.drew;refine aY (fun W'=>(LL W' (w.heap.size+1+1+1) 3 vi∧LL W' (w.heap.size+1+1+1) 4 vl)∧(LL W' X 0 (O fid)∧LL W' X 1 (.string fname)∧LL W' X 2 (.string ftype)∧LL W' X 3 (O fkind)∧LL W' X 4 (O frule))∧LL W' w.heap.size 0 (.slice A b.length cap)) 14 (by kernel_rfl) ?_;apply tkL 0 hS;apply tkL 1 hS;apply tkL 2 hS;apply tkL 3 hS;apply tkL 6 hS;apply tkL 7 hS;apply tkL 8 hS;apply tkL 9 hS
    try simp only[pu]
    refine anq 4 (fun K hK=>?_);go_simp;have hS:=HSK.out _ (hbvn.drew.alloc (.cells #[O fid] 3)) (hxn.drew.alloc _) (hbbn.drew.alloc _);refine hK.out _ _ (fun _=>hS) ?_
    try simp only[pu]
    refine anq 5 (fun K hK=>?_);refine dM _ rfl (.tmp 20) (.tmp 23) rfl qh aQ.fair rfl rfl ((hrow0.alloc _).ids) (Src.one (es:=[O fid]) (y:=fid) rfl (gI.bK rfl) rfl (ik.new _ _ _)) (NoT.lt _) (by go_light;simp;omega) (hrow0.alloc _).hb ?_;intro v1 w1 ho1 hg1 hv1;have hr1:=(hrow0.alloc _).Fh ho1 hg1 hv1;have x1:=(hbvn.drew.alloc _).grown hg1 (hrow.nei (by go_light;omega));have x2:=(hxn.drew.alloc _).grown hg1 (hxn.gV hrow.ids (by decide));have x3:=(hbbn.drew.alloc _).grown hg1 (hrow.nei (by go_light;omega));have x4:=(hbrn.drew.alloc _).grown hg1 (hrow.nei (by go_light;omega));have hw1:=below_grown ((au hwa).alloc (au hwa).size _) hg1 (by go_light;have:=hwa.size;simp;omega) (fun g' h=>by go_light;have:=(hrow.ilt h).1;omega);have hS:=HSK.out _ x1 x2 x3;refine hK.out _ _ (fun _=>hS) ?_
    try simp only[pu]
    apply tkL 13 hS
    try simp only[pu]
    refine anq 10 (fun K hK=>?_);go_simp;refine(Hc.out _ ((RSl.fair ah.fair).below HB.out hw1)).mono ?_;rintro e w3 ⟨cs3,rfl,hr3,hb3⟩;obtain⟨B1,d1,B2,d2,rfl,-,-⟩:=hr3.parts;have hrr:=hr1.below hb3;have y1:=x1.below hb3 x1.lt;have y2:=x2.below hb3 x2.lt;have y3:=x3.below hb3 x3.lt;have y4:=x4.below hb3 x4.lt;have hw3:=aa hw1 hb3 hw1.size;have hS:=HSK.out _ y1 y2 y3;refine hK.out _ _ (fun _=>hS) ?_
    try simp only[pu]
    refine anq 11 (fun K hK=>?_);go_simp;have hS:=HSK.out _ (y1.alloc (.cells (VV lk ln lt B1 li d1 B2 ll d2).toArray 65)) (y2.alloc _) (y3.alloc _);refine hK.out _ _ (fun _=>hS) ?_
    try simp only[pu]
    refine anq 12 (fun K hK=>?_);refine dM _ rfl (.tmp 26) (.tmp 30) rfl nJ aA.fair rfl rfl ((hrr.alloc _).Tp) (Src.one (es:=(VV lk ln lt B1 li d1 B2 ll d2)) (y:=.mk lk ln lt li ll) rfl (gI.bK rfl) (hr1.apart (aA.fair.keep hr3 (az.alloc _ _ _)) (fun y hy _=>⟨.inl hy,Nat.le_trans hr1.hb hy⟩)) (ik.new _ _ _)) (fun _ h=>h.2) (by go_light;simp;omega) (hrr.alloc _).hb ?_;intro v5 w5 ho5 hg5 hv5;have hr5:=(hrr.alloc _).zA ho5 hg5 hv5;have z1:=(y1.alloc _).grown hg5 (hrr.nel (by go_light;omega));have z2:=(y2.alloc _).grown hg5 (y2.gV hrr.l (by decide));have z3:=(y3.alloc _).grown hg5 (hrr.nel (by go_light;omega));have z4:=(y4.alloc _).grown hg5 (hrr.nel (by go_light;omega));have hw5:=below_grown (hw3.alloc hw3.size _) hg5 (by go_light;have:=hw3.size;simp;omega) (fun g' h=>by go_light;have:=(hrr.llt h).1;omega);have hS:=HSK.out _ z1 z2 z3;have fz3:=z1.frozen 3;have cz3:=z1.c 3 rfl;have fz4:=z1.frozen 4;have cz4:=z1.c 4 rfl;have lz:=z1.lt;obtain⟨R1,p1,rfl,_⟩:=hr5.ids.form;obtain⟨R2,p2,rfl,_⟩:=hr5.l.form;refine hK.out _ _ (fun _=>hS) ?_
    try simp only[pu]
    refine anq 14 (fun K hK=>?_);go_simp;refine hK.out _ _ nay ?_
    try simp only[pu]
    refine anq 15 (fun K hK=>?_);go_simp;refine hK.out _ _ nay ?_
    try simp only[pu]
    refine anq 16 (fun K hK=>?_);go_simp;refine hK.out _ _ nay ?_
    try simp only[pu]
    refine ani ?_ _;have hrz:=(hr5.setCell 3 (.slice R1 (ids++[fid]).length p1)).setCell 4 (.slice R2 (ls++[aj.mk lk ln lt li ll]).length p2);have zz1:=(z1.gB 3 (.slice R1 (ids++[fid]).length p1)).gB 4 (.slice R2 (ls++[aj.mk lk ln lt li ll]).length p2);have zz3:=(z3.far (p:=⟨w.heap.size+1+1+1,3,none⟩) (by go_light;simp;omega) (.slice R1 (ids++[fid]).length p1)).far (p:=⟨w.heap.size+1+1+1,4,none⟩) (by go_light;simp;omega) (.slice R2 (ls++[aj.mk lk ln lt li ll]).length p2);have zz4:=(z4.far (p:=⟨w.heap.size+1+1+1,3,none⟩) (by simp) (.slice R1 (ids++[fid]).length p1)).far (p:=⟨w.heap.size+1+1+1,4,none⟩) (by simp) (.slice R2 (ls++[aj.mk lk ln lt li ll]).length p2);have hwz:=(hw5.setCell (p:=⟨w.heap.size+1+1+1,3,none⟩) (by go_light;simp;omega) (.slice R1 (ids++[fid]).length p1)).setCell (p:=⟨w.heap.size+1+1+1,4,none⟩) (by go_light;simp;omega) (.slice R2 (ls++[aj.mk lk ln lt li ll]).length p2);simp only[List.set_cons_zero,List.set_cons_succ] at zz1;simp only[List.length_append,List.length_cons,List.length_nil,Nat.zero_add] at hrz zz1 zz3 zz4 hwz;have Hids2:Hid (ids++[fid]=(lK t (n+1)).map (·.id)):=by show _=_;rw[Hon.out,List.map_append,←Hids.out];rfl
    have Hls2:Hid (ls++[aj.mk lk ln lt li ll]=(lK t (n+1)).map (aL b k)):=by show _=_;rw[Hon.out,List.map_append,←Hls.out,Hlf.out];rfl
    clear z1 z2 z3 z4 y1 y2 y3 y4 x1 x2 x3 x4 fz3 fz4 cz3 cz4 hw1 hw3 hw5 hg1 hg5 hv1 hv5 hr1 hrr hr5 ho1 ho5 hS hr3 hb3;go_wp2;go_roundw
    case rel=>exact⟨n+1,_,_,by go_num,by go_light;omega,by rw[←Hids2.out,←Hls2.out];exact hrz,zz1,zz4,zz3,hwz⟩
    case measure=>go_light;simp[intOf];omega
   ·have Hon:=hidL (Hno.out hr1);have hrb:(frule==1)=false:=by simpa using hr1
    clear Hyes Hno Hcall hr1;go_wp2;go_roundw
    case rel=>exact⟨n+1,vi,vl,by go_num,by go_light;omega,by rw[Hon.out];exact hrow,hbvn,hbrn,hbbn,hwa⟩
    case measure=>go_light;simp[intOf];omega
  ·have hall:=Qo (t:=t) (k:=n) (by go_light;omega);rw[hall] at hro;obtain⟨R1,p1,rfl,_⟩:=hro.ids.form;obtain⟨R2,p2,rfl,_⟩:=hro.l.form;have hln:(jU t).length≤5:=by rw[←hall];exact Nat.le_trans (Cj t n) h5
   obtain⟨v,hv⟩:=exE (iE b k t);have hrd:aA (fun y=>w.heap.size+1+1+1+1≤y) wr [O 2,O 0,E0,.slice R1 ((jU t).map (·.id)).length p1,.slice R2 ((jU t).map (aL b k)).length p2] v:=by
    rw[hv];exact hro.read (S:=fun y=>w.heap.size+1+1+1+1≤y) (fun y hy=>hy) (fun y hy=>hy) (by rw[List.length_map];omega) (by rw[List.length_map];omega) 2 0 ⟨#[]⟩
   rw[←hv];generalize ((jU t).map (·.id)).length=L1 at *;generalize ((jU t).map (aL b k)).length=L2 at *;obtain⟨e0,e1,e2,e3,e4⟩:=hbv.five;obtain⟨r0,r1,r2,r3,r4,g0,g1,g2,g3,g4,hlr⟩:=(hbr).rr5;have Hv:=hidL hv;have Hrd:=hidL hrd;clear hv hrd hro hall hln hbb;go_wp2_with fail;change bodyPost _ _ _ _ _ (setCells wr (w.heap.size+1+1) 0 [O 2,O 0,E0,.slice R1 L1 p1,.slice R2 L2 p2]);have hb5:=hbr.setCells [O 2,O 0,E0,.slice R1 L1 p1,.slice R2 L2 p2] rfl;have hw5:=below_setCells (g:=w.heap.size+1+1) (by go_light;omega) [O 2,O 0,E0,.slice R1 L1 p1,.slice R2 L2 p2] 0 _ hb;have hrd2:aA (New w) (setCells wr (w.heap.size+1+1) 0 [O 2,O 0,E0,.slice R1 L1 p1,.slice R2 L2 p2]) [O 2,O 0,E0,.slice R1 L1 p1,.slice R2 L2 p2] v :=
    aA.fair.mono (aA.fair.keep Hrd.out (az.setCells (by go_light;omega) _ _ _)) (fun y hy _=>by unfold New;omega)
   generalize setCells wr (w.heap.size+1+1) 0 _=W at hb5 hw5 hrd2 ⊢;exact bodyPost_ret (Tj hb5 rfl) rfl ⟨_,rfl,by rw[←Hv.out];exact hrd2,hw5⟩
theorem yJ (S:Nat→Prop)(vb:Value)(b:av)(hg:aB b=0):∀ (k:Nat),Vz S vb b k:=by
 intro k f w hb0 hf he;obtain⟨A,cap,rfl,hlc,hlb⟩:=hb0.form;have Hmsg:=hidL (fun h=>gZ hg hf h);have Hen:=hidL (fun h=>rY hg hf h);have HB:=hidL hb0;obtain⟨v,hv⟩:=exE (aL b k f);rw[←hv];have h3:f.kind=3→v=.mk 1 0 ⟨#[]⟩ [] []:=fun h=>by rw[hv,aL.eq_def,if_pos h]
 have h4:f.kind=4→v=.mk 0 (((typeOf b f.type).items.head?.map (·.n)).getD 0) ⟨#[]⟩ [] []:=fun h=>by rw[hv,aL.eq_def,if_neg (by go_light;omega),if_pos h]
 have h0:f.kind≠3→f.kind≠4→f.kind≠5→v=.zero:=fun a b c=>by rw[hv,aL.eq_def,if_neg a,if_neg b,if_neg c]
 have h5:f.kind=5→∃ k',k=k'+1∧v=iE b k' (typeOf b f.type)∧∀ g∈jU (typeOf b f.type),yE b k' g:=fun h=>by
  have h1:=he h;cases k with
  | zero=>simp[aZ] at h1
  | succ k' =>
   obtain⟨t,ht,_,hen,_⟩:=sN h1;exact⟨k',rfl,by rw[hv,qM h],by rw[typeOf,ht];exact hen⟩
 have H3:=hidL h3;have H4:=hidL h4;have H0:=hidL h0;have H5:=hidL h5;obtain⟨fid,fname,ftype,fkind,frule⟩:=f;clear hb0 hf he hv h3 h4 h0 h5;dsimp only at Hmsg Hen H3 H4 H0 H5;obtain⟨x1,x2,x3,x4⟩:=kW w [.slice A b.length cap] (FF fid fname ftype fkind frule) [O 0,O 0,E0,Z0,Z0] 38 55 65;go_enter func159,ntmps159;go_wp2_with fail;refine(gH S _ b ftype _ ((RSl.fair ah.fair).below HB.out x4)).mono ?_;rintro e w1 ⟨cs3,rfl,hr3,hb1⟩;obtain⟨B1,l1,B2,l2,B3,l3,rfl,-,-,hri⟩:=hr3.parts;have hw1:=aa x4 hb1 x4.size;have y1:=x1.below hb1 x1.lt;have y2:=x2.below hb1 x2.lt;have y3:=x3.below hb1 x3.lt;obtain⟨ty,hty⟩:=exE ((aM b ftype).getD ax.zero);have htf:typeOf b ftype=ty:=hty.symm;rw[←hty] at hr3 hri ⊢;rw[htf] at Hmsg Hen H4 H5;obtain⟨ok,hok⟩:=exE ((aM b ftype).isSome);rw[←hok];have hwz:=hw1.alloc hw1.size (.cells (TT ty B1 l1 B2 l2 B3 l3).toArray 53);have z1:=y1.alloc (.cells (TT ty B1 l1 B2 l2 B3 l3).toArray 53);have z2:=y2.alloc (.cells (TT ty B1 l1 B2 l2 B3 l3).toArray 53);have z3:=y3.alloc (.cells (TT ty B1 l1 B2 l2 B3 l3).toArray 53);have z5:Box (w1.alloc (.cells (TT ty B1 l1 B2 l2 B3 l3).toArray 53)) w1.heap.size 53 (TT ty B1 l1 B2 l2 B3 l3):=Box.new w1 _ _;have HR3:=hidL (ah.fair.keep (ah.fair.keep hr3 (az.of_below hb1)) (az.alloc S w1 (.cells (TT ty B1 l1 B2 l2 B3 l3).toArray 53)));have HRI:=hidL ((RSl.fair aO.fair).keep ((RSl.fair aO.fair).keep hri (az.of_below hb1)) (az.alloc S w1 (.cells (TT ty B1 l1 B2 l2 B3 l3).toArray 53)));have HBn:=hidL ((RSl.fair ah.fair).below HB.out hwz);have hty1:w1.heap.size<(w1.alloc (.cells (TT ty B1 l1 B2 l2 B3 l3).toArray 53)).heap.size:=z5.lt;obtain⟨r0,r1,r2,r3,r4,g0,g1,g2,g3,g4,hl3⟩:=(y3).rr5;have s0:LL w1 w.heap.size 0 (.slice A b.length cap):=y1.cell 0;have hl1:=y1.lt;obtain⟨f0,f1,f2,f3,f4⟩:=y2.five;have hl2:=y2.lt;have Hty:=hidL hty;clear hb1 x1 x2 x3 x4 hty hok htf hr3 hri
 by_cases h3:fkind=3
 ·have Hv:=hidL (H3.out h3);have b3:(fkind==3)=true:=by simpa using h3
  clear h3;go_wp2_with fail;change bodyPost _ _ _ _ _ ((setCells w1 (w.heap.size+1+1) 0 [O 1,O 0,E0,Z0,Z0]).alloc (.cells (TT ty B1 l1 B2 l2 B3 l3).toArray 53));have hbz:=(y3.setCells [O 1,O 0,E0,Z0,Z0] rfl).alloc (.cells (TT ty B1 l1 B2 l2 B3 l3).toArray 53);have hwz5:=(below_setCells (g:=w.heap.size+1+1) (by go_light;omega) [O 1,O 0,E0,Z0,Z0] 0 _ hw1).alloc (below_setCells (g:=w.heap.size+1+1) (by go_light;omega) [O 1,O 0,E0,Z0,Z0] 0 _ hw1).size (.cells (TT ty B1 l1 B2 l2 B3 l3).toArray 53);generalize (setCells _ (w.heap.size+1+1) 0 _).alloc _=W at hbz hwz5 ⊢;exact bodyPost_ret (Cw hbz rfl) rfl ⟨_,rfl,by rw[Hv.out];exact aA.plain 1 0 ⟨#[]⟩,hwz5⟩
 ·have b3:(fkind==3)=false:=by simpa using h3
  by_cases h4:fkind=4
  ·obtain⟨t4,q1,q2,q3,q4⟩:=Hen.out h4;subst q2;have hit:0<ty.items.length:=by go_light;have:=q4.2.1;omega
   obtain⟨g,o,rfl,hS,hgl⟩:=HRI.out.base hit;have hc:=HRI.out.flat (enc:=dD) hit;have hh:(ty.items.head?.map (·.n)).getD 0=ty.items[0].n:=by rw[List.head?_eq_getElem?,List.getElem?_eq_getElem hit];rfl
   have hv:=H4.out h4;rw[hh] at hv;obtain⟨m,hm⟩:=exE (ty.items[0].n);have c1:(w1.alloc (.cells (TT ty B1 l1 B2 l2 (some ⟨g,o,none⟩) l3).toArray 53)).cell? ⟨g,o+1,none⟩=some (O m):=by
    rw[hm];have:=hc.at_ 1 rfl;simpa using this
   rw[←hm] at hv;have Hv:=hidL hv;have b4:(fkind==4)=true:=by simpa using h4
   clear h3 h4 hc hh hv hm q1 q3 q4;go_wp2_with fail;change bodyPost _ _ _ _ _ ((setCells w1 (w.heap.size+1+1) 0 [O 0,O m,E0,Z0,Z0]).alloc (.cells (TT ty B1 l1 B2 l2 (some ⟨g,o,none⟩) l3).toArray 53));have hbz:=(y3.setCells [O 0,O m,E0,Z0,Z0] rfl).alloc (.cells (TT ty B1 l1 B2 l2 (some ⟨g,o,none⟩) l3).toArray 53);have hwz5:=(below_setCells (g:=w.heap.size+1+1) (by go_light;omega) [O 0,O m,E0,Z0,Z0] 0 _ hw1).alloc (below_setCells (g:=w.heap.size+1+1) (by go_light;omega) [O 0,O m,E0,Z0,Z0] 0 _ hw1).size (.cells (TT ty B1 l1 B2 l2 (some ⟨g,o,none⟩) l3).toArray 53);generalize (setCells _ (w.heap.size+1+1) 0 _).alloc _=W at hbz hwz5 ⊢;exact bodyPost_ret (Cw hbz rfl) rfl ⟨_,rfl,by rw[Hv.out];exact aA.plain 0 m ⟨#[]⟩,hwz5⟩
  ·have b4:(fkind==4)=false:=by simpa using h4
   by_cases h5:fkind=5
   ·obtain⟨k',rfl,hv,hen⟩:=H5.out h5;obtain⟨t5,q1,q2,q3,q4,q5,q6⟩:=Hmsg.out h5;subst q2;have hcall:=fun W (h:RSl 5 96 ah S W [.slice A b.length cap] b) (h2:ah S W (TT ty B1 l1 B2 l2 B3 l3) ty)=>QA S _ b k' (yJ S _ b hg k') _ ty W h h2 q6 hen
    rw[←hv] at hcall;have Hcall:=hidL hcall;have b5:(fkind==5)=true:=by simpa using h5
    clear h3 h4 h5 hv hen hcall q1 q3 q4 q5 q6;go_wp2_with fail;refine(Hcall.out _ HBn.out HR3.out).mono ?_;rintro e w3 ⟨cs5,rfl,hr5,hb5⟩;have hw5:=aa hwz hb5 hwz.size;have z33:=z3.below hb5 z3.lt;obtain⟨⟨vk,vn,vs,vids,vls⟩,hvv⟩:∃ v',v'=v:=⟨_,rfl⟩;rw[←hvv] at hr5;obtain⟨D1,e1,D2,e2,rfl,-,-⟩:=hr5.parts;obtain⟨r0',r1',r2',r3',r4'⟩:=z33.five;have g0':=z33.frozen 0;have g1':=z33.frozen 1;have g2':=z33.frozen 2;have g3':=z33.frozen 3;have g4':=z33.frozen 4;have hl3':=z33.lt;have Hr5:=hidL hr5;have Hvv:=hidL hvv;clear r0 r1 r2 r3 r4 g0 g1 g2 g3 g4 hr5 hvv;go_wp2_with fail;change bodyPost _ _ _ _ _ (setCells w3 (w.heap.size+1+1) 0 (VV vk vn vs D1 vids e1 D2 vls e2));have hbz:=z33.setCells (VV vk vn vs D1 vids e1 D2 vls e2) rfl;have hwz5:=below_setCells (g:=w.heap.size+1+1) (by go_light;omega) (VV vk vn vs D1 vids e1 D2 vls e2) 0 _ hw5;have hrd:aA (New w) (setCells w3 (w.heap.size+1+1) 0 (VV vk vn vs D1 vids e1 D2 vls e2)) (VV vk vn vs D1 vids e1 D2 vls e2) (.mk vk vn vs vids vls) :=
     aA.fair.mono (aA.fair.keep Hr5.out (az.setCells (by unfold New;simp;omega) _ _ _)) (fun y hy _=>by unfold New at *;simp at hy;have:=hw1.size;omega)
    generalize setCells w3 (w.heap.size+1+1) 0 _=W at hbz hwz5 hrd ⊢;exact bodyPost_ret (Cw hbz rfl) rfl ⟨_,rfl,by rw[←Hvv.out];exact hrd,hwz5⟩
   ·have b5:(fkind==5)=false:=by simpa using h5
    have Hv:=hidL (H0.out h3 h4 h5);clear h3 h4 h5;go_wp2_with fail;change bodyPost _ _ _ _ _ ((setCells w1 (w.heap.size+1+1) 0 [O 0,O 0,E0,Z0,Z0]).alloc (.cells (TT ty B1 l1 B2 l2 B3 l3).toArray 53));have hbz:=(y3.setCells [O 0,O 0,E0,Z0,Z0] rfl).alloc (.cells (TT ty B1 l1 B2 l2 B3 l3).toArray 53);have hwz5:=(below_setCells (g:=w.heap.size+1+1) (by go_light;omega) [O 0,O 0,E0,Z0,Z0] 0 _ hw1).alloc (below_setCells (g:=w.heap.size+1+1) (by go_light;omega) [O 0,O 0,E0,Z0,Z0] 0 _ hw1).size (.cells (TT ty B1 l1 B2 l2 B3 l3).toArray 53);generalize (setCells _ (w.heap.size+1+1) 0 _).alloc _=W at hbz hwz5 ⊢;exact bodyPost_ret (Cw hbz rfl) rfl ⟨_,rfl,by rw[Hv.out];exact aA.plain 0 0 ⟨#[]⟩,hwz5⟩
 termination_by k=>k
end
end Go.Proofs.YtknnhpkjgnkcdaaGreatDoor
