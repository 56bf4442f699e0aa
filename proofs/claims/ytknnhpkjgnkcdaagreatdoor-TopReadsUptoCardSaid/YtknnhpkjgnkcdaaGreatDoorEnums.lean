/- Walks and plain laws. -/
import Derived.Test.YtknnhpkjgnkcdaaGreatDoorWalks
set_option linter.all false
set_option maxRecDepth 100000
set_option maxHeartbeats 8000000
namespace Go.Proofs.YtknnhpkjgnkcdaaGreatDoor
open Go.Proofs.Tryz
open Go.RowKit
def oZ (t:ax)(i:Nat)(h:i<t.items.length):Prop:=bJ t.items[i].name=true ∧ -1099511627776≤t.items[i].n∧t.items[i].n≤1099511627776∧(∀ (_:0<i),t.items[i-1].n<t.items[i].n)∧∀ j (_:j<i),t.items[i].name≠t.items[j].name
theorem aeI {t:ax}{i:Nat}(h:i<t.items.length)(hn:¬ oZ t i h):ru t=false:=by
 unfold ru;rw[decide_eq_false_iff_not];intro hp;exact hn (hp.1 i h)
theorem abH {t:ax}(h:∀ i (h:i<t.items.length),oZ t i h):ru t=decide (1≤t.items.length∧t.items.length≤6∧t.fields.length=0∧t.gone.length=0):=by
 unfold ru;exact decide_eq_decide.2 ⟨fun hp=>hp.2,fun hp=>⟨h,hp⟩⟩
theorem aiY (S:Nat→Prop)(cs:List Value)(t:ax)(w:World)(ht:ah S w cs t)(hW:Words w)(hsz:∀ x∈t.items,x.name.size≤140737488351232) :
  Calls prog 73 #[.agg cs.toArray] w (Ret w (.bool (ru t))):=by
 obtain⟨A1,k1,A2,k2,A3,k3,rfl,hf,hgn,hi⟩:=ht.parts;obtain⟨Ai,ki,hii,hilc,hilb⟩:=hi.form;obtain⟨Af,kf,hff,hflc,hflb⟩:=hf.form;obtain⟨Ag,kg,hgg,hglc,hglb⟩:=hgn.form;have HI:=hidL hi;have HW:=hidL hW;have HSZ:=hidL hsz;have hki:t.items.length≤k3:=by injection hii;omega
 clear ht hi hf hgn hW hsz hii hff hgg;go_enter func73,ntmps73;go_wp2_with fail;go_loopw [10] (fun i wr=>∃ k:Nat,i=O k∧k≤t.items.length∧Hid (∀ j (h:j<t.items.length),j<k→oZ t j h) ∧
   Box wr w.heap.size 53 (TT t A1 k1 A2 k2 A3 k3)∧Below w.heap.size w wr) (fun i _=>t.items.length-(intOf i).toNat)
 case atStart=>exact⟨0,rfl,by omega,(fun j _ hj=>absurd hj (by omega):∀ j (h:j<t.items.length),j<0→oZ t j h),Box.new w _ _,(Below.refl _ _).alloc (Nat.le_refl _) _⟩
 case round =>
  obtain⟨k,rfl,hk,he,hbx,hb⟩:=hrel;have hltw:w.heap.size<wr.heap.size:=hbx.lt;have b4:LL wr w.heap.size 4 (.slice A3 t.items.length k3):=hbx.cell 4
  by_cases hlt:k<t.items.length
  ·obtain⟨g,o,rfl,hS,hg⟩:=HI.out.base (by omega);have hc:=(HI.out.flat (enc:=dD) hlt).keep (az.of_below hb) hS;have hgw:g<wr.heap.size:=Nat.lt_of_lt_of_le hg hb.size;have hxs:=HSZ.out t.items[k] (List.getElem_mem hlt);have hno0:¬ oZ t k hlt→ru t=false:=aeI hlt;unfold oZ at hno0;have hpv:0<k→LL wr g (o+(k-1)*2+1) (O t.items[k-1].n):=fun h0 =>
    ((HI.out.flat (enc:=dD) (show k-1<t.items.length by omega)).keep (az.of_below hb) hS).at_ 1 rfl
   obtain⟨x,hxe⟩:=exE (t.items[k]);rw[←hxe] at hc hxs hno0;obtain⟨xname,xn⟩:=x;dsimp only at hxs hno0;have q0:=hc.a0 rfl;have q1:=hc.at_ 1 rfl;have Hxe:=hidL hxe;clear hc hxe;have hwa:=hb.alloc hb.size (.cells #[.string xname,O xn] 57);have hbt:=hbx.alloc (.cells #[.string xname,O xn] 57);have HWn:=hidL (HW.out.below hwa)
   by_cases hnm:bJ xname=true
   ·by_cases hlo:xn < -1099511627776
    ·have Hno:=hidL (hno0 (fun h=>by have:=h.2.1;omega));have d1:decide (xn < -1099511627776)=true:=by simpa using hlo
     clear hno0 hpv;go_wp2_with fail
     go_quiet ((first | (go_at_call 49;exact Du _ _ _ hnm (by omega) HWn.out) | (go_at_call 108;exact JE _ _ _ hid)))
     go_wp2
     go_ret;exact⟨kr Hno.out.symm,below_drewN hwa _⟩
    ·have d1:decide (xn < -1099511627776)=false:=by simpa using hlo
     by_cases hhi:1099511627776<xn
     ·have Hno:=hidL (hno0 (fun h=>by have:=h.2.2.1;omega));have d2:decide (xn > 1099511627776)=true:=by simpa using hhi
      clear hno0 hpv;go_wp2_with fail
      go_quiet ((first | (go_at_call 49;exact Du _ _ _ hnm (by omega) HWn.out) | (go_at_call 108;exact JE _ _ _ hid)))
      go_wp2
      go_ret;exact⟨kr Hno.out.symm,below_drewN hwa _⟩
     ·have d2:decide (xn > 1099511627776)=false:=by simpa using hhi
      by_cases hk0:0<k
      ·have hpvk:=hpv (by omega);clear hpv;obtain⟨y,hye⟩:=exE (t.items[k-1].n);rw[←hye] at hpvk;have e1:IntKind.i64.wrap ((k:Int)-1)=(k:Int)-1:=IntWalk.i64_in _ (by omega);have e2:((k:Int)-1).toNat=k-1:=by omega
       have e3:decide (0<k)=true:=by simp;omega
       by_cases hyx:y<xn
       ·have e4:decide (y≥xn)=false:=by simp;omega
        have hok:(∀ q (h:q<t.items.length),q<k→xname≠t.items[q].name)→oZ t k hlt:=fun h=>by
         unfold oZ;rw[←Hxe.out];dsimp only;exact⟨hnm,by omega,by omega,fun _=>by rw[←hye];exact hyx,fun j hj=>h j (by omega) hj⟩
        have hbad:∀ q (h:q<t.items.length),q<k→xname=t.items[q].name→ru t=false:=fun q _ hqk h=>hno0 fun hh=>hh.2.2.2.2 q hqk h
        have Hye:=hidL hye;clear hye;have Hok:=hidL hok;have Hbad:=hidL hbad;clear hno0 hok hbad;go_wp2_with fail
        go_quiet ((first | (go_at_call 49;exact Du _ _ _ hnm (by omega) HWn.out) | (go_at_call 108;exact JE _ _ _ hid)))
        have hwq:=below_drewN hwa nq;have hbq:Box ((wr.alloc (.cells #[.string xname,O xn] 57)).drewN nq) w.heap.size 53 _:=hbt.drewN nq;have hxq:Box ((wr.alloc (.cells #[.string xname,O xn] 57)).drewN nq) wr.heap.size 57 [.string xname,O xn]:=(Box.new wr _ _).drewN nq;clear hwa hbt q0 q1 d1 d2 e3 hnm hlo hhi b4 HWn;have c4:((wr.alloc (.cells #[.string xname,O xn] 57)).drewN nq).cell? ⟨w.heap.size,4,none⟩=some (.slice (some ⟨g,o,none⟩) t.items.length k3):=hbq.cell 4;generalize hWq:(wr.alloc (.cells #[.string xname,O xn] 57)).drewN nq=Wq at *;clear hWq;have hltq:w.heap.size<Wq.heap.size:=hbq.lt;have hltx:wr.heap.size<Wq.heap.size:=hxq.lt;generalize hX:wr.heap.size=X at *;clear hX;go_wp2_with fail;go_loopw [50] (fun i wi=>∃ j:Nat,i=O j∧j≤k∧Hid (∀ q (h:q<t.items.length),q<j→xname≠t.items[q].name)∧Below Wq.heap.size Wq wi) (fun i _=>k-(intOf i).toNat)
        case atStart=>exact⟨0,rfl,by omega,(fun q _ hq=>absurd hq (by omega):∀ q (h:q<t.items.length),q<0→xname≠t.items[q].name),Below.refl _ _⟩
        case round =>
         obtain⟨j,rfl,hj,hd,hbi⟩:=hrel;have hwi:=aa hwq hbi hwq.size;have hbi2:=hbq.below hbi hltq
         by_cases hjl:j<k
         ·have hjt:j<t.items.length:=by omega
          have hcj:=(HI.out.flat (enc:=dD) hjt).keep (az.of_below hwi) hS;obtain⟨z,hz⟩:=exE (t.items[j].name);obtain⟨zn,hzn⟩:=exE (t.items[j].n);have p0:wr.cell? ⟨g,o+j*2,none⟩=some (.string z):=by rw[hz];exact hcj.at_ 0 rfl
          have p1:wr.cell? ⟨g,o+j*2+1,none⟩=some (O zn):=by rw[hzn];exact hcj.at_ 1 rfl
          have c0:LL wr X 0 (.string xname):=(hxq.below hbi hltx).cell 0;have hXl:X<wr.heap.size:=(hxq.below hbi hltx).lt;have hgl:g<wr.heap.size:=by have:=hbi.size;omega
          have Hz:=hidL hz;clear hz hzn hcj c4;have hwj:=hwi.alloc hwi.size (.cells #[.string z,O zn] 57);have hbj:=hbi.alloc hbi.size (.cells #[.string z,O zn] 57)
          by_cases hxz:xname=z
          ·have Hno:=hidL (Hbad.out j hjt hjl (hxz.trans Hz.out));subst hxz;go_wp2;go_ret;exact⟨kr Hno.out.symm,hwj⟩
          ·have hne:(xname.toList==z.toList)=false:=by rw[ba_eq];simpa using hxz
           go_wp2;go_roundw
           case rel =>
            refine⟨j+1,by go_num,by omega,?_,hbj⟩;show ∀ q (h:q<t.items.length),q<j+1→xname≠t.items[q].name;intro q hq hqj
            by_cases hqj':q<j
            ·exact hd.out q hq hqj'
            ·have:q=j:=by omega
             subst this;rw[←Hz.out];exact hxz
           case measure=>simp[intOf];omega
         ·have hnew:∀ j (h:j<t.items.length),j<k+1→oZ t j h:=by
           intro q hq hqk
           by_cases hqk':q<k
           ·exact he.out q hq hqk'
           ·have:q=k:=by omega
            subst this;exact Hok.out fun q' hq' hqq=>hd.out q' hq' (by omega)
          have Hnew:=hidL hnew;clear hnew c4;go_wp2;go_roundw
          case rel=>exact⟨k+1,by go_num,by omega,Hnew,hbi2,hwi⟩
          case measure=>simp[intOf];omega
       ·have Hno:=hidL (hno0 (fun h=>by have:=h.2.2.2.1 (by omega);omega));have Hye:=hidL hye;clear hno0 hye;have e4:decide (y≥xn)=true:=by simp;omega
        go_wp2_with fail
        go_quiet ((first | (go_at_call 49;exact Du _ _ _ hnm (by omega) HWn.out) | (go_at_call 108;exact JE _ _ _ hid)))
        go_wp2
        go_ret;exact⟨kr Hno.out.symm,below_drewN hwa _⟩
      ·have e3:decide (0<k)=false:=by simp;omega
       have hok:(∀ q (h:q<t.items.length),q<k→xname≠t.items[q].name)→oZ t k hlt:=fun h=>by
        unfold oZ;rw[←Hxe.out];dsimp only;exact⟨hnm,by omega,by omega,fun h=>absurd h hk0,fun j hj=>h j (by omega) hj⟩
       have hbad:∀ q (h:q<t.items.length),q<k→xname=t.items[q].name→ru t=false:=fun q _ hqk h=>hno0 fun hh=>hh.2.2.2.2 q hqk h
       clear hpv hk0;have Hok:=hidL hok;have Hbad:=hidL hbad;clear hno0 hok hbad;go_wp2_with fail
       go_quiet ((first | (go_at_call 49;exact Du _ _ _ hnm (by omega) HWn.out) | (go_at_call 108;exact JE _ _ _ hid)))
       have hwq:=below_drewN hwa nq;have hbq:Box ((wr.alloc (.cells #[.string xname,O xn] 57)).drewN nq) w.heap.size 53 _:=hbt.drewN nq;have hxq:Box ((wr.alloc (.cells #[.string xname,O xn] 57)).drewN nq) wr.heap.size 57 [.string xname,O xn]:=(Box.new wr _ _).drewN nq;clear hwa hbt q0 q1 d1 d2 e3 hnm hlo hhi b4 HWn;have c4:((wr.alloc (.cells #[.string xname,O xn] 57)).drewN nq).cell? ⟨w.heap.size,4,none⟩=some (.slice (some ⟨g,o,none⟩) t.items.length k3):=hbq.cell 4;generalize hWq:(wr.alloc (.cells #[.string xname,O xn] 57)).drewN nq=Wq at *;clear hWq;have hltq:w.heap.size<Wq.heap.size:=hbq.lt;have hltx:wr.heap.size<Wq.heap.size:=hxq.lt;generalize hX:wr.heap.size=X at *;clear hX;go_wp2_with fail;go_loopw [50] (fun i wi=>∃ j:Nat,i=O j∧j≤k∧Hid (∀ q (h:q<t.items.length),q<j→xname≠t.items[q].name)∧Below Wq.heap.size Wq wi) (fun i _=>k-(intOf i).toNat)
       case atStart=>exact⟨0,rfl,by omega,(fun q _ hq=>absurd hq (by omega):∀ q (h:q<t.items.length),q<0→xname≠t.items[q].name),Below.refl _ _⟩
       case round =>
        obtain⟨j,rfl,hj,hd,hbi⟩:=hrel;have hwi:=aa hwq hbi hwq.size;have hbi2:=hbq.below hbi hltq
        by_cases hjl:j<k
        ·have hjt:j<t.items.length:=by omega
         have hcj:=(HI.out.flat (enc:=dD) hjt).keep (az.of_below hwi) hS;obtain⟨z,hz⟩:=exE (t.items[j].name);obtain⟨zn,hzn⟩:=exE (t.items[j].n);have p0:wr.cell? ⟨g,o+j*2,none⟩=some (.string z):=by rw[hz];exact hcj.at_ 0 rfl
         have p1:wr.cell? ⟨g,o+j*2+1,none⟩=some (O zn):=by rw[hzn];exact hcj.at_ 1 rfl
         have c0:LL wr X 0 (.string xname):=(hxq.below hbi hltx).cell 0;have hXl:X<wr.heap.size:=(hxq.below hbi hltx).lt;have hgl:g<wr.heap.size:=by have:=hbi.size;omega
         have Hz:=hidL hz;clear hz hzn hcj c4;have hwj:=hwi.alloc hwi.size (.cells #[.string z,O zn] 57);have hbj:=hbi.alloc hbi.size (.cells #[.string z,O zn] 57)
         by_cases hxz:xname=z
         ·have Hno:=hidL (Hbad.out j hjt hjl (hxz.trans Hz.out));subst hxz;go_wp2;go_ret;exact⟨kr Hno.out.symm,hwj⟩
         ·have hne:(xname.toList==z.toList)=false:=by rw[ba_eq];simpa using hxz
          go_wp2;go_roundw
          case rel =>
           refine⟨j+1,by go_num,by omega,?_,hbj⟩;show ∀ q (h:q<t.items.length),q<j+1→xname≠t.items[q].name;intro q hq hqj
           by_cases hqj':q<j
           ·exact hd.out q hq hqj'
           ·have:q=j:=by omega
            subst this;rw[←Hz.out];exact hxz
          case measure=>simp[intOf];omega
        ·have hnew:∀ j (h:j<t.items.length),j<k+1→oZ t j h:=by
          intro q hq hqk
          by_cases hqk':q<k
          ·exact he.out q hq hqk'
          ·have:q=k:=by omega
           subst this;exact Hok.out fun q' hq' hqq=>hd.out q' hq' (by omega)
         have Hnew:=hidL hnew;clear hnew c4;go_wp2;go_roundw
         case rel=>exact⟨k+1,by go_num,by omega,Hnew,hbi2,hwi⟩
         case measure=>simp[intOf];omega
   ·have Hno:=hidL (hno0 (fun h=>hnm h.1));simp only[Bool.not_eq_true] at hnm;clear hno0 hpv;go_wp2_with fail
    go_quiet ((first | (go_at_call 49;exact Du _ _ _ hnm (by omega) HWn.out) | (go_at_call 108;exact JE _ _ _ hid)))
    go_wp2
    go_ret;exact⟨kr Hno.out.symm,below_drewN hwa _⟩
  ·have hend:=abH (t:=t) (fun j h=>he.out j h (by omega));have Hend:=hidL hend;have b2:LL wr w.heap.size 2 (.slice A1 t.fields.length k1):=hbx.cell 2;have b3:LL wr w.heap.size 3 (.slice A2 t.gone.length k2):=hbx.cell 3;clear he hend hbx;go_wp2_with fail
   all_goals
    go_ret;refine⟨kr ?_,hb⟩;rw[Hend.out]
    first | (simp;done) | (simp;omega) | (rw[Bool.eq_iff_iff];simp[*];done) | (rw[Bool.eq_iff_iff];have:t.fields.length=0:=(by simp[*]);simp only[beq_iff_eq,decide_eq_true_eq];omega)
def tL (t:ax)(i:Nat)(h:i<t.gone.length):Prop:=(aC t t.gone[i]).isSome=false∧1≤t.gone[i]∧t.gone[i]≤30∧∀ (_:0<i),t.gone[i-1]<t.gone[i]
def mM (b:av)(t:ax)(i:Nat)(h:i<t.fields.length):Prop:=iC b t.fields[i]∧(∀ (_:0<i),t.fields[i-1].id<t.fields[i].id)∧∀ j (_:j<i),t.fields[i].name≠t.fields[j].name
theorem aew {b:av}{t:ax}(h:¬ (t.fields.length≤5∧t.items.length=0∧t.gone.length≤30)):gq b t=false:=by
 unfold gq;rw[decide_eq_false_iff_not];exact fun hp=>h ⟨hp.1,hp.2.1,hp.2.2.1⟩
theorem WO {b:av}{t:ax}{i:Nat}(h:i<t.gone.length)(hn:¬ tL t i h):gq b t=false:=by
 unfold gq;rw[decide_eq_false_iff_not];exact fun hp=>hn (hp.2.2.2.1 i h)
theorem aer {b:av}{t:ax}{i:Nat}(h:i<t.fields.length)(hn:¬ mM b t i h):gq b t=false:=by
 unfold gq;rw[decide_eq_false_iff_not];exact fun hp=>hn (hp.2.2.2.2 i h)
theorem aeC {b:av}{t:ax}(h1:t.fields.length≤5∧t.items.length=0∧t.gone.length≤30)(h2:∀ i (h:i<t.gone.length),tL t i h)(h3:∀ i (h:i<t.fields.length),mM b t i h):gq b t=true:=by
 unfold gq;rw[decide_eq_true_iff];exact⟨h1.1,h1.2.1,h1.2.2,h2,h3⟩
def Ej (w:World)(r:Option ay)(e:Ending)(w':World):Prop :=
 ∃ f:ay,Hid (r.getD .zero=f)∧e=.returned (.tuple #[.agg (FF f.id f.name f.type f.kind f.rule).toArray,.bool r.isSome])∧Below w.heap.size w w'
theorem yZ (S:Nat→Prop)(cs:List Value)(t:ax)(id:Int)(w:World)(ht:ah S w cs t) :
  Calls prog 107 #[.agg cs.toArray,O id] w (Ej w (aC t id)) :=
 (qD S cs t id w ht).mono fun _ _ ⟨he,hb⟩=>⟨_,rfl,he,hb⟩
theorem adj (x:Int)(w:World){r:Bool}(hr:decide (1≤x∧x≤30)=r):Calls prog 108 #[O x] w (Pur w (.bool r)):=by subst hr;exact Pp x w
theorem qH {a:ByteArray}(h:a.size=0):a=⟨#[]⟩:=by
 rw[qb (s:=a) (l:=[]) (List.eq_nil_of_length_eq_zero h)]
theorem ahH {b:av}{t:ax}{k:Nat}(h:∀ j (h:j<t.fields.length),j<k→mM b t j h)(hk:k<t.fields.length)(h':mM b t k hk):Hid (∀ j (h:j<t.fields.length),j<k+1→mM b t j h):=by
 show ∀ j (h:j<t.fields.length),j<k+1→mM b t j h;intro j hj hjk
 by_cases hjk':j<k
 ·exact h j hj hjk'
 ·have:j=k:=by omega
  subst this;exact h'
theorem aas {t:ax}{k:Nat}(h:∀ j (h:j<t.gone.length),j<k→tL t j h)(hk:k<t.gone.length)(h':tL t k hk):Hid (∀ j (h:j<t.gone.length),j<k+1→tL t j h):=by
 show ∀ j (h:j<t.gone.length),j<k+1→tL t j h;intro j hj hjk
 by_cases hjk':j<k
 ·exact h j hj hjk'
 ·have:j=k:=by omega
  subst this;exact h'
theorem aaF (S:Nat→Prop)(vb:Value)(b:av)(cs:List Value)(t:ax)(w:World)(hb0:RSl 5 96 ah S w [vb] b)(ht:ah S w cs t)(hW:Words w)(hsz:∀ x∈t.fields,x.name.size≤140737488351232) :
  Calls prog 74 #[.agg #[vb],.agg cs.toArray] w (Ret w (.bool (gq b t))):=by
 obtain⟨A,cap,rfl,hlc,hlb⟩:=hb0.form;obtain⟨A1,k1,A2,k2,A3,k3,rfl,hf,hgn,hi⟩:=ht.parts;obtain⟨Ai,ki,hii,hilc,hilb⟩:=hi.form;obtain⟨Af,kf,hff,hflc,hflb⟩:=hf.form;obtain⟨Ag,kg,hgg,hglc,hglb⟩:=hgn.form;have HB:=hidL hb0;have HT:=hidL ht;have HF:=hidL hf;have HG:=hidL hgn;have HW:=hidL hW;have HSZ:=hidL hsz;have hki:t.fields.length≤k1:=by injection hff;omega
 clear hb0 ht hi hf hgn hW hsz hii hff hgg hilc hilb;go_enter func74,ntmps74
 by_cases h1:t.fields.length≤5∧t.items.length=0∧t.gone.length≤30
 ·have H1:=hidL h1;obtain⟨h11,h12,h13⟩:=h1;have h12':¬ 0<t.items.length:=by omega
  clear h12;go_wp2_with fail;go_loopw [34] (fun i wr=>∃ k:Nat,i=O k∧k≤t.gone.length∧Hid (∀ j (h:j<t.gone.length),j<k→tL t j h)∧Box wr w.heap.size 38 [.slice A b.length cap]∧Box wr (w.heap.size+1) 53 (TT t A1 k1 A2 k2 A3 k3)∧Below w.heap.size w wr) (fun i _=>t.gone.length-(intOf i).toNat)
  case atStart =>
   refine⟨0,rfl,by omega,(fun j _ hj=>absurd hj (by omega):∀ j (h:j<t.gone.length),j<0→tL t j h),(Box.new w _ _).alloc _,?_,((Below.refl _ _).alloc (Nat.le_refl _) _).alloc (by simp) _⟩;have:=Box.new (w.alloc (.cells #[.slice A b.length cap] 38)) 53 (TT t A1 k1 A2 k2 A3 k3);simpa using this
  case round =>
   obtain⟨k,rfl,hk,he,hbk,htp,hb⟩:=hrel;have hltb:w.heap.size<wr.heap.size:=hbk.lt;have hltt:w.heap.size+1<wr.heap.size:=htp.lt;have b0:LL wr (w.heap.size+1) 0 (.string t.name):=htp.cell 0;have b1:LL wr (w.heap.size+1) 1 (.bool t.enum):=htp.cell 1;have b2:LL wr (w.heap.size+1) 2 (.slice A1 t.fields.length k1):=htp.cell 2;have b3:LL wr (w.heap.size+1) 3 (.slice A2 t.gone.length k2):=htp.cell 3;have b4:LL wr (w.heap.size+1) 4 (.slice A3 t.items.length k3):=htp.cell 4
   by_cases hlt:k<t.gone.length
   ·obtain⟨g,o,rfl,hS,hg⟩:=HG.out.base (by omega);have hc:=(HG.out.flat (enc:=fun x:Int=>[O x]) hlt).keep (az.of_below hb) hS;have hno0:¬ tL t k hlt→gq b t=false:=WO hlt;unfold tL at hno0;have hpv:0<k→LL wr g (o+(k-1)) (O t.gone[k-1]):=fun h0=>by
     have:=((HG.out.flat (enc:=fun x:Int=>[O x]) (show k-1<t.gone.length by omega)).keep (az.of_below hb) hS).at_ 0 rfl;simpa using this
    obtain⟨n,hxe⟩:=exE (t.gone[k]);rw[←hxe] at hc hno0;have q0:LL wr g (o+k) (O n):=by have:=hc.at_ 0 rfl;simpa using this
    have hgl:g<wr.heap.size:=Nat.lt_of_lt_of_le hg hb.size;have Hxe:=hidL hxe;clear hc hxe;have Hno0:=hidL hno0;have Hpv:=hidL hpv;clear hno0 hpv;go_wp2_with fail;refine(yZ S _ t n _ (ah.fair.keep HT.out (az.of_below hb))).mono ?_;rintro e w1 ⟨fx,-,rfl,hb1⟩;obtain⟨xid,xname,xtype,xkind,xrule⟩:=fx;dsimp only;have hw1:=aa hb hb1 hb.size;have hw2:=hw1.alloc hw1.size (.cells (FF xid xname xtype xkind xrule).toArray 55);have hbk2:=(hbk.below hb1 hbk.lt).alloc (.cells (FF xid xname xtype xkind xrule).toArray 55);have htp1:=htp.below hb1 htp.lt;have htp2:=htp1.alloc (.cells (FF xid xname xtype xkind xrule).toArray 55);have m3:LL w1 (w.heap.size+1) 3 (.slice (some ⟨g,o,none⟩) t.gone.length k2):=htp1.cell 3;have hl1:w.heap.size+1<w1.heap.size:=htp1.lt;have hgl1:g<w1.heap.size:=Nat.lt_of_lt_of_le hgl hb1.size;have hpv1:0<k→w1.cell? ⟨g,o+(k-1),none⟩=some (O t.gone[k-1]):=fun h0=>by
     rw[World.cell?_of_block (w:=wr) (hb1.block g hgl)];exact Hpv.out h0
    clear b0 b1 b2 b3 b4 q0 hbk htp htp1 Hpv hb1;have Hpv:=hidL hpv1;clear hpv1;obtain⟨so,hso⟩:=exE ((aC t n).isSome);rw[←hso];have Hso:=hidL hso;clear hso
    by_cases hn:1≤n∧n≤30
    ·have hnb:decide (1≤n∧n≤30)=true:=by simpa using hn
     have Hn:=hidL hn;cases so with
     | true =>
      have Hno:=hidL (Hno0.out (fun h=>by have:=h.1;rw[←Hso.out] at this;cases this));go_wp2_with (go_at_call 108;refine(adj _ _ hnb).mono ?_;rintro e w' ⟨rfl,rfl⟩)
      go_ret;exact⟨kr Hno.out.symm,hw2⟩
     | false =>
      by_cases hk0:0<k
      ·obtain⟨y,hye⟩:=exE (t.gone[k-1]);have hpvk:=Hpv.out hk0;rw[←hye] at hpvk;have e1:IntKind.i64.wrap ((k:Int)-1)=(k:Int)-1:=IntWalk.i64_in _ (by omega);have e2:((k:Int)-1).toNat=k-1:=by omega
       by_cases hyx:y<n
       ·have Hf:=hidL (show tL t k hlt from by unfold tL;rw[←Hxe.out];exact⟨Hso.out.symm,hn.1,hn.2,fun _=>by rw[←hye];exact hyx⟩);have Hye:=hidL hye;clear hye hn;go_wp2_with (go_at_call 108;refine(adj _ _ hnb).mono ?_;rintro e w' ⟨rfl,rfl⟩)
        go_roundw
        case rel=>exact⟨k+1,by go_num,by omega,aas he.out hlt Hf.out,hbk2,htp2,hw2⟩
        case measure=>simp[intOf];omega
       ·have Hno:=hidL (Hno0.out (fun h=>by have:=h.2.2.2 hk0;omega));have Hye:=hidL hye;clear hye hn;go_wp2_with (go_at_call 108;refine(adj _ _ hnb).mono ?_;rintro e w' ⟨rfl,rfl⟩)
        go_ret;exact⟨kr Hno.out.symm,hw2⟩
      ·have Hf:=hidL (show tL t k hlt from by unfold tL;rw[←Hxe.out];exact⟨Hso.out.symm,hn.1,hn.2,fun h=>absurd h hk0⟩);clear hn;go_wp2_with (go_at_call 108;refine(adj _ _ hnb).mono ?_;rintro e w' ⟨rfl,rfl⟩)
       go_roundw
       case rel=>exact⟨k+1,by go_num,by omega,aas he.out hlt Hf.out,hbk2,htp2,hw2⟩
       case measure=>simp[intOf];omega
    ·have hnb:decide (1≤n∧n≤30)=false:=by simpa using hn
     have Hno:=hidL (Hno0.out (fun h=>hn ⟨h.2.1,h.2.2.1⟩));clear hn;go_wp2_with (go_at_call 108;refine(adj _ _ hnb).mono ?_;rintro e w' ⟨rfl,rfl⟩)
     go_ret;exact⟨kr Hno.out.symm,hw2⟩
   ·have HGone:=hidL (fun j (h:j<t.gone.length)=>he.out j h (by omega));clear he b0 b1 b3 b4;obtain⟨wo,rfl⟩:=exE (wr:World);go_wp2_with fail;clear b2;go_loopw [69] (fun i wr=>∃ k:Nat,i=O k∧k≤t.fields.length∧Hid (∀ j (h:j<t.fields.length),j<k→mM b t j h)∧Box wr w.heap.size 38 [.slice A b.length cap]∧Box wr (w.heap.size+1) 53 (TT t A1 k1 A2 k2 A3 k3)∧Below w.heap.size w wr) (fun i _=>t.fields.length-(intOf i).toNat)
    case atStart=>exact⟨0,rfl,by omega,(fun j _ hj=>absurd hj (by omega):∀ j (h:j<t.fields.length),j<0→mM b t j h),hbk,htp,hb⟩
    case round =>
     clear hbk htp hb hltb hltt hlt hk;obtain⟨k,rfl,hk,He,hbk,htp,hb⟩:=hrel;have hltb:w.heap.size<wr.heap.size:=hbk.lt;have hltt:w.heap.size+1<wr.heap.size:=htp.lt;have b2:LL wr (w.heap.size+1) 2 (.slice A1 t.fields.length k1):=htp.cell 2
     by_cases hlt:k<t.fields.length
     ·obtain⟨g,o,rfl,hS,hg⟩:=HF.out.base (by omega);have hc:=(HF.out.flat (enc:=aI) hlt).keep (az.of_below hb) hS;have hno0:¬ mM b t k hlt→gq b t=false:=aer hlt;have hxs:=HSZ.out t.fields[k] (List.getElem_mem hlt);have hpv:0<k→LL wr g (o+(k-1)*5) (O t.fields[k-1].id):=fun h0 =>
       ((HF.out.flat (enc:=aI) (show k-1<t.fields.length by omega)).keep (az.of_below hb) hS).at_ 0 rfl
      unfold mM at hno0;obtain⟨f0,hxe⟩:=exE (t.fields[k]);rw[←hxe] at hc hno0 hxs;obtain⟨⟨fid,fname,ftype,fkind,frule⟩,hf0⟩:∃ x,x=f0:=⟨_,rfl⟩;rw[←hf0] at hc hxs;have Hf0:=hidL hf0;have hno1:¬ (bJ fname=true∧1≤fid∧fid≤30∧1≤fkind∧fkind≤5∧1≤frule∧frule≤3)→gq b t=false:=fun h=>hno0 fun hh=>h (by
       obtain⟨⟨h1,h2,h3,h4,h5,h6,h7,_⟩,_⟩:=hh;rw[←hf0] at h1 h2 h3 h4 h5 h6 h7;exact⟨h1,h2,h3,h4,h5,h6,h7⟩)
      have q0:=hc.a0 rfl;have q1:=hc.at_ 1 rfl;have q2:=hc.at_ 2 rfl;have q3:=hc.at_ 3 rfl;have q4:=hc.at_ 4 rfl;have hgl:g<wr.heap.size:=Nat.lt_of_lt_of_le hg hb.size;have Hxe:=hidL hxe;dsimp only at hxs;clear hc hxe hf0;have hwa:=hb.alloc hb.size (.cells (FF fid fname ftype fkind frule).toArray 55);have hbkn:=hbk.alloc (.cells (FF fid fname ftype fkind frule).toArray 55);have htpn:=htp.alloc (.cells (FF fid fname ftype fkind frule).toArray 55);have HWn:=hidL (HW.out.below hwa)
      by_cases hnm:bJ fname=true
      case' neg =>
       have Hno:=hidL (hno1 (fun h=>hnm h.1));simp only[Bool.not_eq_true] at hnm;have hnb:decide (1≤fid∧fid≤30)=decide (1≤fid∧fid≤30):=rfl;clear hno0 hno1 hpv
      case' pos =>
       by_cases hid:1≤fid∧fid≤30
       case' neg =>
        have hnb:decide (1≤fid∧fid≤30)=false:=by simpa using hid
        have Hno:=hidL (hno1 (fun h=>hid ⟨h.2.1,h.2.2.1⟩));clear hno0 hno1 hpv hid
       case' pos =>
        have hnb:decide (1≤fid∧fid≤30)=true:=by simpa using hid
        by_cases hk1:1≤fkind
        case' neg =>
         have d1:decide (fkind<1)=true:=by simp;omega
         have Hno:=hidL (hno1 (fun h=>by omega));clear hno0 hno1 hpv hid
        case' pos =>
         have d1:decide (fkind<1)=false:=by simp;omega
         by_cases hk5:fkind≤5
         case' neg =>
          have d2:decide (fkind > 5)=true:=by simp;omega
          have Hno:=hidL (hno1 (fun h=>by omega));clear hno0 hno1 hpv hid
         case' pos =>
          have d2:decide (fkind > 5)=false:=by simp;omega
          by_cases hr1:1≤frule
          case' neg =>
           have d3:decide (frule<1)=true:=by simp;omega
           have Hno:=hidL (hno1 (fun h=>by omega));clear hno0 hno1 hpv hid
          case' pos =>
           have d3:decide (frule<1)=false:=by simp;omega
           by_cases hr3:frule≤3
           case' neg =>
            have d4:decide (frule > 3)=true:=by simp;omega
            have Hno:=hidL (hno1 (fun h=>by omega));clear hno0 hno1 hpv hid
           case' pos =>
            have d4:decide (frule > 3)=false:=by simp;omega
            have hbad:∀ q (h:q<t.fields.length),q<k→fname=t.fields[q].name→gq b t=false:=fun q _ hqk h=>hno0 fun hh=>by
             have:=hh.2.2 q hqk;rw[←Hf0.out] at this;exact this h
            have hbad2:¬ uh b f0→gq b t=false:=fun h=>hno0 fun hh=>h hh.1.2.2.2.2.2.2.2
            have hfp:uh b f0→iC b f0:=fun h=>by
             rw[←Hf0.out] at h ⊢;exact⟨hnm,hid.1,hid.2,hk1,hk5,hr1,hr3,h⟩
            by_cases hk0:0<k
            case' neg =>
             have e3:decide (0<k)=false:=by simp;omega
             have hok:(∀ q (h:q<t.fields.length),q<k→fname≠t.fields[q].name)→uh b f0→mM b t k hlt:=fun h hkp=>by
              unfold mM;rw[←Hxe.out];refine⟨hfp hkp,fun h=>absurd h hk0,fun j hj=>?_⟩;have:=h j (by omega) hj;rw[←Hf0.out];exact this
             clear hk0 hpv hno1 hfp hid
            case' pos =>
             have hpvk:=hpv (by omega);obtain⟨y,hye⟩:=exE (t.fields[k-1].id);rw[←hye] at hpvk;have e1:IntKind.i64.wrap ((k:Int)-1)=(k:Int)-1:=IntWalk.i64_in _ (by omega);have e2:((k:Int)-1).toNat=k-1:=by omega
             have e3:decide (0<k)=true:=by simp;omega
             by_cases hyx:y<fid
             case' neg =>
              have e4:decide (y≥fid)=true:=by simp;omega
              have Hno:=hidL (hno0 (fun h=>by have:=h.2.1 hk0;rw[←Hf0.out] at this;dsimp only at this;omega));have Hye:=hidL hye;clear hye hno0 hno1 hpv hbad hbad2 hfp hid
             case' pos =>
              have e4:decide (y≥fid)=false:=by simp;omega
              have hok:(∀ q (h:q<t.fields.length),q<k→fname≠t.fields[q].name)→uh b f0→mM b t k hlt:=fun h hkp=>by
               unfold mM;rw[←Hxe.out];refine⟨hfp hkp,fun _=>?_,fun j hj=>?_⟩
               ·rw[←hye,←Hf0.out];exact hyx
               ·have:=h j (by omega) hj;rw[←Hf0.out];exact this
              have Hye:=hidL hye;clear hye hpv hno1 hfp hid
      all_goals try (have _:=Hno;go_wp2_with fail;go_quiet ((first | (go_at_call 49;exact Du _ _ _ hnm (by omega) HWn.out) | (go_at_call 108;exact JE _ _ _ hnb)));go_wp2;go_ret;exact⟨kr Hno.out.symm,below_drewN hwa _⟩)
      all_goals
       have Hok:=hidL hok;have Hbad:=hidL hbad;have Hbad2:=hidL hbad2;clear hno0 hok hbad hbad2;go_wp2_with fail
       go_quiet ((first | (go_at_call 49;exact Du _ _ _ hnm (by omega) HWn.out) | (go_at_call 108;exact JE _ _ _ hnb)))
       have hwq:=below_drewN hwa nq;have hbkq:=hbkn.drewN nq;have htpq:=htpn.drewN nq;have hxq:Box ((wr.alloc (.cells (FF fid fname ftype fkind frule).toArray 55)).drewN nq) wr.heap.size 55 (FF fid fname ftype fkind frule):=(Box.new wr _ _).drewN nq;clear hwa hbkn htpn q0 q1 q2 q3 q4 d1 d2 d3 d4 e3 hnm hnb b2 HWn hk1 hk5 hr1 hr3;generalize hWq:(wr.alloc (.cells (FF fid fname ftype fkind frule).toArray 55)).drewN nq=Wq at *;clear hWq;have hltx:wr.heap.size<Wq.heap.size:=hxq.lt;have hltt:w.heap.size+1<Wq.heap.size:=htpq.lt;have hltb:w.heap.size<Wq.heap.size:=hbkq.lt;generalize hX:wr.heap.size=X at *;clear hX;have c4:LL Wq (w.heap.size+1) 2 (.slice (some ⟨g,o,none⟩) t.fields.length k1):=htpq.cell 2;go_wp2_with fail;go_loopw [125] (fun i wi=>∃ j:Nat,i=O j∧j≤k∧Hid (∀ q (h:q<t.fields.length),q<j→fname≠t.fields[q].name)∧Below Wq.heap.size Wq wi) (fun i _=>k-(intOf i).toNat)
       case atStart=>exact⟨0,rfl,by omega,(fun q _ hq=>absurd hq (by omega):∀ q (h:q<t.fields.length),q<0→fname≠t.fields[q].name),Below.refl _ _⟩
       case round =>
        obtain⟨j,rfl,hj,hd,hbi⟩:=hrel;have hwi:=aa hwq hbi hwq.size;have hbki:=hbkq.below hbi hbkq.lt;have htpi:=htpq.below hbi htpq.lt;have hxi:=hxq.below hbi hltx;have hXl:X<wr.heap.size:=hxi.lt
        by_cases hjl:j<k
        ·have hjt:j<t.fields.length:=by omega
         have hcj:=(HF.out.flat (enc:=aI) hjt).keep (az.of_below hwi) hS;obtain⟨z,hz⟩:=exE (t.fields[j]);rw[←hz] at hcj;obtain⟨zid,zname,ztype,zkind,zrule⟩:=z;have p0:=hcj.a0 rfl;have p1:=hcj.at_ 1 rfl;have p2:=hcj.at_ 2 rfl;have p3:=hcj.at_ 3 rfl;have p4:=hcj.at_ 4 rfl;have c0:LL wr X 1 (.string fname):=hxi.cell 1;have hgl:g<wr.heap.size:=by have:=hbi.size;omega
         have hzn:zname=t.fields[j].name:=by rw[←hz]
         have Hzn:=hidL hzn;clear hz hcj c4 hzn;have hwj:=hwi.alloc hwi.size (.cells (FF zid zname ztype zkind zrule).toArray 55);have hbj:=hbi.alloc hbi.size (.cells (FF zid zname ztype zkind zrule).toArray 55)
         by_cases hxz:fname=zname
         ·have Hno:=hidL (Hbad.out j hjt hjl (hxz.trans Hzn.out));subst hxz;go_wp2;go_ret;exact⟨kr Hno.out.symm,hwj⟩
         ·have hne:(fname.toList==zname.toList)=false:=by rw[ba_eq];simpa using hxz
          go_wp2;go_roundw
          case rel =>
           refine⟨j+1,by go_num,by omega,?_,hbj⟩;show ∀ q (h:q<t.fields.length),q<j+1→fname≠t.fields[q].name;intro q hq hqj
           by_cases hqj':q<j
           ·exact hd.out q hq hqj'
           ·have:q=j:=by omega
            subst this;rw[←Hzn.out];exact hxz
          case measure=>simp[intOf];omega
        ·have hkk:j=k:=by omega
         have Hok2:=hidL (fun h:uh b f0=>Hok.out (fun q hq hqk=>hd.out q hq (by omega)) h);have s0:LL wr w.heap.size 0 (.slice A b.length cap):=hbki.cell 0;have x2:LL wr X 2 (.string ftype):=hxi.cell 2;have x3:LL wr X 3 (O fkind):=hxi.cell 3;have hltb2:w.heap.size<wr.heap.size:=hbki.lt;clear c4 hkk hd Hok;go_wp2_with fail;refine(gH S _ b ftype _ ((RSl.fair ah.fair).below HB.out hwi)).mono ?_;rintro e w3 ⟨cs3,rfl,hr3,hb3⟩;obtain⟨B1,l1,B2,l2,B3,l3,rfl,-,-,-⟩:=hr3.parts;have hw3:=aa hwi hb3 hwi.size;have hbk3:=hbki.below hb3 hltb2;have htp3:=htpi.below hb3 htpi.lt;have hx3:=(hxi.below hb3 hxi.lt);have y2:=hx3.c 2 rfl;have y3:=hx3.c 3 rfl;have hXl3:X<w3.heap.size:=hx3.lt;clear s0 x2 x3;obtain⟨ty,hty⟩:=exE ((aM b ftype).getD ax.zero);rw[←hty];obtain⟨ok,hok⟩:=exE ((aM b ftype).isSome);rw[←hok];have Hkp:Hid (uh b f0↔(fkind<4→ftype.size=0)∧(4≤fkind→ok=true∧ty.enum=decide (fkind=4))):=by
          show _↔_;rw[←Hf0.out,uh,hty,hok]
         obtain⟨tyn,tye,tyf,tyg,tyi⟩:=ty;have Hty:=hidL hty;have Hokk:=hidL hok;clear hr3 hty hok;dsimp only at Hkp;have hwz:=hw3.alloc hw3.size (.cells #[.string tyn,.bool tye,.slice B1 tyf.length l1,.slice B2 tyg.length l2,.slice B3 tyi.length l3] 53)
         by_cases hk4:fkind<4
         ·by_cases hts:ftype.size=0
          ·have Hf:=hidL (Hok2.out (Hkp.out.2 ⟨fun _=>hts,fun h=>absurd h (by omega)⟩));have hte:(ftype.toList==[])=true:=by rw[show ftype=⟨#[]⟩ from qH hts,ByteArray.toList_eq];rfl
           clear hts;go_wp2;go_roundw
           case rel=>exact⟨k+1,by go_num,by omega,ahH He.out hlt Hf.out,hbk3.alloc _,htp3.alloc _,hwz⟩
           case measure=>simp[intOf];omega
          ·have Hno:=hidL (Hbad2.out (fun h=>hts ((Hkp.out.1 h).1 hk4)));have hte:(ftype.toList==[])=false:=by
            cases hq:ftype.toList with
            | nil=>exact absurd (by rw[ByteArray.toList_eq] at hq;exact congrArg List.length hq) hts
            | cons a l=>rfl
           clear hts;go_wp2;go_ret;exact⟨kr Hno.out.symm,hwz⟩
         ·cases ok with
          | false =>
           have Hno:=hidL (Hbad2.out (fun h=>by have:=((Hkp.out.1 h).2 (by omega)).1;cases this));go_wp2;go_ret;exact⟨kr Hno.out.symm,hwz⟩
          | true =>
           obtain⟨d,hd4⟩:=exE (decide (fkind=4));have hd5:(fkind==4)=d:=by rw[hd4];rfl
           have Hd4:=hidL hd4;clear hd4
           by_cases hte:tye=d
           ·have Hf:=hidL (Hok2.out (Hkp.out.2 ⟨fun h=>absurd h hk4,fun _=>⟨rfl,hte.trans Hd4.out⟩⟩));subst hte;cases tye with
            | true =>
             go_wp2;go_roundw
             case rel=>exact⟨k+1,by go_num,by omega,ahH He.out hlt Hf.out,hbk3.alloc _,htp3.alloc _,hwz⟩
             case measure=>simp[intOf];omega
            | false =>
             go_wp2;go_roundw
             case rel=>exact⟨k+1,by go_num,by omega,ahH He.out hlt Hf.out,hbk3.alloc _,htp3.alloc _,hwz⟩
             case measure=>simp[intOf];omega
           ·have Hno:=hidL (Hbad2.out (fun h=>hte ((((Hkp.out.1 h).2 (by omega)).2).trans Hd4.out.symm)));cases d with
            | true =>
             obtain rfl:tye=false:=by simpa using hte
             clear hte;go_wp2;go_ret;exact⟨kr Hno.out.symm,hwz⟩
            | false =>
             obtain rfl:tye=true:=by simpa using hte
             clear hte;go_wp2;go_ret;exact⟨kr Hno.out.symm,hwz⟩
     ·have Hyes:=hidL (aeC (b:=b) H1.out HGone.out (fun j h=>He.out j h (by omega)));go_wp2;go_ret;exact⟨kr Hyes.out.symm,hb⟩
 ·have h2:5<t.fields.length∨(t.fields.length≤5∧0<t.items.length)∨(t.fields.length≤5∧t.items.length=0∧30<t.gone.length):=by omega
  have Hno:=hidL (aew (b:=b) h1);clear h1;rcases h2 with h2 | ⟨h2,h3⟩ | ⟨h2,h3,h4⟩
  ·go_wp2;go_ret;exact⟨kr Hno.out.symm,((Below.refl _ _).alloc (Nat.le_refl _) _).alloc (by simp) _⟩
  ·go_wp2;go_ret;exact⟨kr Hno.out.symm,((Below.refl _ _).alloc (Nat.le_refl _) _).alloc (by simp) _⟩
  ·have h3':¬ 0<t.items.length:=by omega
   clear h3;go_wp2;go_ret;exact⟨kr Hno.out.symm,((Below.refl _ _).alloc (Nat.le_refl _) _).alloc (by simp) _⟩
end Go.Proofs.YtknnhpkjgnkcdaaGreatDoor
