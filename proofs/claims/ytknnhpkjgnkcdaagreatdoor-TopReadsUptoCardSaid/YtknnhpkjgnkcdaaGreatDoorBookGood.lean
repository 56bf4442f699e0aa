/- The walk of book.Good. -/
import Derived.Test.YtknnhpkjgnkcdaaGreatDoorEnums
set_option linter.all false
set_option maxRecDepth 100000
set_option maxHeartbeats 8000000
namespace Go.Proofs.YtknnhpkjgnkcdaaGreatDoor
open Go.Proofs.Tryz
open Go.RowKit
def mU (b:av)(i:Nat)(h:i<b.length):Prop:=bJ b[i].name=true∧(∀ (_:0<i),ltS b[i-1].name b[i].name)∧(if b[i].enum=true then ru b[i]=true else gq b b[i]=true)
def lM (b:av)(i:Nat)(h:i<b.length):Prop:=b[i].enum=false→1≤aZ b 4 b[i].name∧aZ b 4 b[i].name≤12
theorem ZG {b:av}(h:¬ b.length≤4):aB b=7:=by unfold aB;rw[if_pos (by omega)]
theorem abn {b:av}(h0:b.length≤4){i:Nat}(h:i<b.length)(hn:¬ mU b i h):aB b=1:=by
 unfold aB;rw[if_neg (by omega),if_pos (fun hp=>hn (hp i h))]
theorem abI {b:av}(h0:b.length≤4)(h1:∀ i (h:i<b.length),mU b i h){i:Nat}(h:i<b.length)(hn:¬ lM b i h):aB b=7:=by
 unfold aB;rw[if_neg (by omega),if_neg (fun hp=>hp h1),if_pos (fun hp=>hn (hp i h))]
theorem ZK {b:av}(h0:b.length≤4)(h1:∀ i (h:i<b.length),mU b i h)(h2:∀ i (h:i<b.length),lM b i h):aB b=0:=by
 unfold aB;rw[if_neg (by omega),if_neg (fun hp=>hp h1),if_neg (fun hp=>hp h2)]
theorem Ad {n k:Nat}{P:(i:Nat)→i<n→Prop}(h:∀ j (h:j<n),j<k→P j h)(hk:k<n)(h':P k hk):Hid (∀ j (h:j<n),j<k+1→P j h):=by
 show ∀ j (h:j<n),j<k+1→P j h;intro j hj hjk
 by_cases hjk':j<k
 ·exact h j hj hjk'
 ·have:j=k:=by omega
  subst this;exact h'
def gQ (s:ByteArray):Prop:=s.size≤140737488351232
def aS (b:av):Prop:=∀ t∈b,gQ t.name∧(∀ f∈t.fields,gQ f.name∧gQ f.type)∧(∀ x∈t.items,gQ x.name)
theorem kS (S:Nat→Prop)(vb:Value)(b:av)(w:World)(hb0:RSl 5 96 ah S w [vb] b)(hW:Words w)(hsz:aS b) :
  Calls prog 37 #[.agg #[vb]] w (Ret w (O (aB b))):=by
 obtain⟨A,cap,rfl,hlc,hlb⟩:=hb0.form;have HB:=hidL hb0;have HW:=hidL hW;have HSZ:=hidL hsz;clear hb0 hW hsz;go_enter func37,ntmps37
 by_cases h1:b.length≤4
 ·go_wp2_with fail;go_loopw [15] (fun i wr=>∃ k:Nat,i=O k∧k≤b.length∧Hid (∀ j (h:j<b.length),j<k→mU b j h)∧Box wr w.heap.size 38 [.slice A b.length cap]∧Below w.heap.size w wr) (fun i _=>b.length-(intOf i).toNat)
  case atStart=>exact⟨0,rfl,by omega,(fun j _ hj=>absurd hj (by omega):∀ j (h:j<b.length),j<0→mU b j h),Box.new w _ _,(Below.refl _ _).alloc (Nat.le_refl _) _⟩
  case round =>
   obtain⟨k,rfl,hk,he,hbk,hb⟩:=hrel;have hltb:w.heap.size<wr.heap.size:=hbk.lt;have s0:wr.cell? ⟨w.heap.size,0,none⟩=some (.slice A b.length cap):=hbk.cell 0
   by_cases hlt:k<b.length
   ·obtain⟨g,o,rfl,hS,hg⟩:=HB.out.base (by omega);obtain⟨es,hes,hr,hc0⟩:=HB.out.lies hlt;have hc:=hc0.keep (az.of_below hb) hS;have hno0:¬ mU b k hlt→aB b=1:=abn h1 hlt;unfold mU at hno0;have hxs:=HSZ.out b[k] (List.getElem_mem hlt);have hpv:0<k→wr.cell? ⟨g,o+(k-1)*5,none⟩=some (.string b[k-1].name):=fun h0=>by
     obtain⟨es',_,hr',hc'⟩:=HB.out.lies (show k-1<b.length by omega);obtain⟨_,_,_,_,_,_,e,_,_,_⟩:=hr'.parts;rw[e] at hc';exact(hc'.keep (az.of_below hb) hS).at_ 0 rfl
    obtain⟨t,hxe⟩:=exE (b[k]);rw[←hxe] at hr hno0 hxs;obtain⟨A1,k1,A2,k2,A3,k3,rfl,hrf,hrg,hri⟩:=hr.parts;have q0:=hc.a0 rfl;have q1:=hc.at_ 1 rfl;have q2:=hc.at_ 2 rfl;have q3:=hc.at_ 3 rfl;have q4:=hc.at_ 4 rfl;have hgl:g<wr.heap.size:=Nat.lt_of_lt_of_le hg hb.size;have HR:=hidL hr;have Hxe:=hidL hxe;have hns:t.name.size≤140737488351232:=hxs.1;have Hxs:=hidL hxs;clear hc hc0 hes hxe hr hrf hrg hri hxs;have hwa:=hb.alloc hb.size (.cells #[.string t.name,.bool t.enum,.slice A1 t.fields.length k1,.slice A2 t.gone.length k2,.slice A3 t.items.length k3] 53);have hbkn:=hbk.alloc (.cells #[.string t.name,.bool t.enum,.slice A1 t.fields.length k1,.slice A2 t.gone.length k2,.slice A3 t.items.length k3] 53);have HWn:=hidL (HW.out.below hwa)
    by_cases hnm:bJ t.name=true
    ·by_cases hk0:0<k
     ·have hpvk:=hpv (by omega);obtain⟨y,hye⟩:=exE (b[k-1].name);rw[←hye] at hpvk;have e1:IntKind.i64.wrap ((k:Int)-1)=(k:Int)-1:=IntWalk.i64_in _ (by omega);have e2:((k:Int)-1).toNat=k-1:=by omega
      have e3:decide (0<k)=true:=by simp;omega
      by_cases hyx:ltS y t.name
      ·have e4:Op.bytesLess y.toList t.name.toList=true:=hyx;have Hok:Hid ((if t.enum=true then ru t=true else gq b t=true)→mU b k hlt):=fun h=>by
        unfold mU;rw[←Hxe.out];exact⟨hnm,fun _=>by rw[←hye];exact hyx,h⟩
       have Hbad:=hidL (fun h:¬ (if t.enum=true then ru t=true else gq b t=true)=>hno0 fun hh=>h hh.2.2);have Hye:=hidL hye;clear hye hpv hyx;clear hno0;go_wp2_with fail
       go_quiet ((go_at_call 49;exact Du _ _ _ hnm (by omega) HWn.out))
       have hwq:=below_drewN hwa nq;have hbkq:=hbkn.drewN nq;have HWq:=hidL (HWn.out.drewN nq);have hxq:Box ((wr.alloc (.cells #[.string t.name,.bool t.enum,.slice A1 t.fields.length k1,.slice A2 t.gone.length k2,.slice A3 t.items.length k3] 53)).drewN nq) wr.heap.size 53 [.string t.name,.bool t.enum,.slice A1 t.fields.length k1,.slice A2 t.gone.length k2,.slice A3 t.items.length k3]:=(Box.new wr _ _).drewN nq;clear hwa hbkn q0 q1 q2 q3 q4 e3 hnm s0 HWn;generalize hWq:(wr.alloc (.cells #[.string t.name,.bool t.enum,.slice A1 t.fields.length k1,.slice A2 t.gone.length k2,.slice A3 t.items.length k3] 53)).drewN nq=Wq at *;clear hWq;have hltx:wr.heap.size<Wq.heap.size:=hxq.lt;have hltbq:w.heap.size<Wq.heap.size:=hbkq.lt;generalize hX:wr.heap.size=X at *;clear hX;have HRq:=hidL (ah.fair.keep HR.out (az.of_below hwq));have HBq:=hidL ((RSl.fair ah.fair).below HB.out hwq);have s0:Wq.cell? ⟨w.heap.size,0,none⟩=some (.slice (some ⟨g,o,none⟩) b.length cap):=hbkq.cell 0;have x0:Wq.cell? ⟨X,0,none⟩=some (.string t.name):=hxq.cell 0;have x1:Wq.cell? ⟨X,1,none⟩=some (.bool t.enum):=hxq.cell 1;have x2:Wq.cell? ⟨X,2,none⟩=some (.slice A1 t.fields.length k1):=hxq.cell 2;have x3:Wq.cell? ⟨X,3,none⟩=some (.slice A2 t.gone.length k2):=hxq.cell 3;have x4:Wq.cell? ⟨X,4,none⟩=some (.slice A3 t.items.length k3):=hxq.cell 4;obtain⟨en,hen⟩:=exE t.enum;rw[←hen] at x1;have Hen:=hidL hen;have hen2:Value.bool t.enum=Value.bool en:=by rw[hen]
       have hxq1:=hxq;rw[hen2] at hxq1;have HRq2:Hid (ah S Wq [.string t.name,.bool en,.slice A1 t.fields.length k1,.slice A2 t.gone.length k2,.slice A3 t.items.length k3] t):=by
        have:=HRq.out;rw[hen2] at this;exact this
       clear hen hen2 hxq HRq;cases en with
       | true =>
        have Hok2:=hidL (fun h:ru t=true=>Hok.out (by rw[if_pos Hen.out.symm];exact h));have Hbad2:=hidL (fun h:ru t≠true=>Hbad.out (by rw[if_pos Hen.out.symm];exact h));go_wp2_with fail;refine(aiY S _ t _ HRq2.out HWq.out Hxs.out.2.2).mono ?_;rintro e w1 ⟨rfl,hb1⟩;have hw1:=aa hwq hb1 hwq.size;have hbk1:=hbkq.below hb1 hbkq.lt;have hx1:=hxq1.below hb1 hxq1.lt;have y1:w1.cell? ⟨X,1,none⟩=some (.bool true):=hx1.cell 1;have hXl1:X<w1.heap.size:=hx1.lt;clear s0 x0 x1 x2 x3 x4;cases hef:ru t with
        | true =>
         have Hf:=hidL (Hok2.out hef);clear hef;go_wp2;go_roundw
         case rel=>exact⟨k+1,by go_num,by omega,Ad he.out hlt Hf.out,hbk1,hw1⟩
         case measure=>simp[intOf];omega
        | false =>
         have Hno:=hidL (Hbad2.out (by rw[hef];decide));clear hef;go_wp2;go_ret;exact⟨iB (by rw[Hno.out]),hw1⟩
       | false =>
        have Hok2:=hidL (fun h:gq b t=true=>Hok.out (by rw[if_neg (by rw[←Hen.out];decide)];exact h));have Hbad2:=hidL (fun h:gq b t≠true=>Hbad.out (by rw[if_neg (by rw[←Hen.out];decide)];exact h));go_wp2_with fail;refine(aaF S _ b _ t _ HBq.out HRq2.out HWq.out (fun x hx=>(Hxs.out.2.1 x hx).1)).mono ?_;rintro e w1 ⟨rfl,hb1⟩;have hw1:=aa hwq hb1 hwq.size;have hbk1:=hbkq.below hb1 hbkq.lt;clear s0 x0 x1 x2 x3 x4;cases hef:gq b t with
        | true =>
         have Hf:=hidL (Hok2.out hef);clear hef;go_wp2;go_roundw
         case rel=>exact⟨k+1,by go_num,by omega,Ad he.out hlt Hf.out,hbk1,hw1⟩
         case measure=>simp[intOf];omega
        | false =>
         have Hno:=hidL (Hbad2.out (by rw[hef];decide));clear hef;go_wp2;go_ret;exact⟨iB (by rw[Hno.out]),hw1⟩
      ·have e4:Op.bytesLess y.toList t.name.toList=false:=by unfold ltS at hyx;simpa using hyx
       have Hno:=hidL (hno0 (fun h=>hyx (by rw[hye];exact h.2.1 hk0)));have Hye:=hidL hye;clear hye hno0 hpv hyx;go_wp2_with fail
       go_quiet ((go_at_call 49;exact Du _ _ _ hnm (by omega) HWn.out))
       go_wp2
       go_ret;exact⟨iB (by rw[Hno.out]),below_drewN hwa _⟩
     ·have e3:decide (0<k)=false:=by simp;omega
      have Hok:Hid ((if t.enum=true then ru t=true else gq b t=true)→mU b k hlt):=fun h=>by
       unfold mU;rw[←Hxe.out];exact⟨hnm,fun h=>absurd h hk0,h⟩
      have Hbad:=hidL (fun h:¬ (if t.enum=true then ru t=true else gq b t=true)=>hno0 fun hh=>h hh.2.2);clear hk0 hpv;clear hno0;go_wp2_with fail
      go_quiet ((go_at_call 49;exact Du _ _ _ hnm (by omega) HWn.out))
      have hwq:=below_drewN hwa nq;have hbkq:=hbkn.drewN nq;have HWq:=hidL (HWn.out.drewN nq);have hxq:Box ((wr.alloc (.cells #[.string t.name,.bool t.enum,.slice A1 t.fields.length k1,.slice A2 t.gone.length k2,.slice A3 t.items.length k3] 53)).drewN nq) wr.heap.size 53 [.string t.name,.bool t.enum,.slice A1 t.fields.length k1,.slice A2 t.gone.length k2,.slice A3 t.items.length k3]:=(Box.new wr _ _).drewN nq;clear hwa hbkn q0 q1 q2 q3 q4 e3 hnm s0 HWn;generalize hWq:(wr.alloc (.cells #[.string t.name,.bool t.enum,.slice A1 t.fields.length k1,.slice A2 t.gone.length k2,.slice A3 t.items.length k3] 53)).drewN nq=Wq at *;clear hWq;have hltx:wr.heap.size<Wq.heap.size:=hxq.lt;have hltbq:w.heap.size<Wq.heap.size:=hbkq.lt;generalize hX:wr.heap.size=X at *;clear hX;have HRq:=hidL (ah.fair.keep HR.out (az.of_below hwq));have HBq:=hidL ((RSl.fair ah.fair).below HB.out hwq);have s0:Wq.cell? ⟨w.heap.size,0,none⟩=some (.slice (some ⟨g,o,none⟩) b.length cap):=hbkq.cell 0;have x0:Wq.cell? ⟨X,0,none⟩=some (.string t.name):=hxq.cell 0;have x1:Wq.cell? ⟨X,1,none⟩=some (.bool t.enum):=hxq.cell 1;have x2:Wq.cell? ⟨X,2,none⟩=some (.slice A1 t.fields.length k1):=hxq.cell 2;have x3:Wq.cell? ⟨X,3,none⟩=some (.slice A2 t.gone.length k2):=hxq.cell 3;have x4:Wq.cell? ⟨X,4,none⟩=some (.slice A3 t.items.length k3):=hxq.cell 4;obtain⟨en,hen⟩:=exE t.enum;rw[←hen] at x1;have Hen:=hidL hen;have hen2:Value.bool t.enum=Value.bool en:=by rw[hen]
      have hxq1:=hxq;rw[hen2] at hxq1;have HRq2:Hid (ah S Wq [.string t.name,.bool en,.slice A1 t.fields.length k1,.slice A2 t.gone.length k2,.slice A3 t.items.length k3] t):=by
       have:=HRq.out;rw[hen2] at this;exact this
      clear hen hen2 hxq HRq;cases en with
      | true =>
       have Hok2:=hidL (fun h:ru t=true=>Hok.out (by rw[if_pos Hen.out.symm];exact h));have Hbad2:=hidL (fun h:ru t≠true=>Hbad.out (by rw[if_pos Hen.out.symm];exact h));go_wp2_with fail;refine(aiY S _ t _ HRq2.out HWq.out Hxs.out.2.2).mono ?_;rintro e w1 ⟨rfl,hb1⟩;have hw1:=aa hwq hb1 hwq.size;have hbk1:=hbkq.below hb1 hbkq.lt;have hx1:=hxq1.below hb1 hxq1.lt;have y1:w1.cell? ⟨X,1,none⟩=some (.bool true):=hx1.cell 1;have hXl1:X<w1.heap.size:=hx1.lt;clear s0 x0 x1 x2 x3 x4;cases hef:ru t with
       | true =>
        have Hf:=hidL (Hok2.out hef);clear hef;go_wp2;go_roundw
        case rel=>exact⟨k+1,by go_num,by omega,Ad he.out hlt Hf.out,hbk1,hw1⟩
        case measure=>simp[intOf];omega
       | false =>
        have Hno:=hidL (Hbad2.out (by rw[hef];decide));clear hef;go_wp2;go_ret;exact⟨iB (by rw[Hno.out]),hw1⟩
      | false =>
       have Hok2:=hidL (fun h:gq b t=true=>Hok.out (by rw[if_neg (by rw[←Hen.out];decide)];exact h));have Hbad2:=hidL (fun h:gq b t≠true=>Hbad.out (by rw[if_neg (by rw[←Hen.out];decide)];exact h));go_wp2_with fail;refine(aaF S _ b _ t _ HBq.out HRq2.out HWq.out (fun x hx=>(Hxs.out.2.1 x hx).1)).mono ?_;rintro e w1 ⟨rfl,hb1⟩;have hw1:=aa hwq hb1 hwq.size;have hbk1:=hbkq.below hb1 hbkq.lt;clear s0 x0 x1 x2 x3 x4;cases hef:gq b t with
       | true =>
        have Hf:=hidL (Hok2.out hef);clear hef;go_wp2;go_roundw
        case rel=>exact⟨k+1,by go_num,by omega,Ad he.out hlt Hf.out,hbk1,hw1⟩
        case measure=>simp[intOf];omega
       | false =>
        have Hno:=hidL (Hbad2.out (by rw[hef];decide));clear hef;go_wp2;go_ret;exact⟨iB (by rw[Hno.out]),hw1⟩
    ·have Hno:=hidL (hno0 (fun h=>hnm h.1));simp only[Bool.not_eq_true] at hnm;clear hno0 hpv;go_wp2_with fail
     go_quiet ((go_at_call 49;exact Du _ _ _ hnm (by omega) HWn.out))
     go_wp2
     go_ret;exact⟨iB (by rw[Hno.out]),below_drewN hwa _⟩
   ·have HT:=hidL (fun j (h:j<b.length)=>he.out j h (by omega));clear he s0;obtain⟨wo,rfl⟩:=exE (wr:World);have s0:wo.cell? ⟨w.heap.size,0,none⟩=some (.slice A b.length cap):=hbk.cell 0;go_wp2_with fail;clear s0;go_loopw [62] (fun i wr=>∃ k:Nat,i=O k∧k≤b.length∧Hid (∀ j (h:j<b.length),j<k→lM b j h)∧Box wr w.heap.size 38 [.slice A b.length cap]∧Below w.heap.size w wr) (fun i _=>b.length-(intOf i).toNat)
    case atStart=>exact⟨0,rfl,by omega,(fun j _ hj=>absurd hj (by omega):∀ j (h:j<b.length),j<0→lM b j h),hbk,hb⟩
    case round =>
     clear hbk hb hltb hlt hk;obtain⟨k,rfl,hk,He,hbk,hb⟩:=hrel;have hltb:w.heap.size<wr.heap.size:=hbk.lt
     by_cases hlt:k<b.length
     ·obtain⟨g,o,rfl,hS,hg⟩:=HB.out.base (by omega);obtain⟨es,hes,hr,hc0⟩:=HB.out.lies hlt;have hc:=hc0.keep (az.of_below hb) hS;have hno0:¬ lM b k hlt→aB b=7:=abI h1 HT.out hlt;unfold lM at hno0;obtain⟨t,hxe⟩:=exE (b[k]);rw[←hxe] at hr hno0;obtain⟨A1,k1,A2,k2,A3,k3,rfl,hrf,hrg,hri⟩:=hr.parts;have q0:=hc.a0 rfl;have q1:=hc.at_ 1 rfl;have q2:=hc.at_ 2 rfl;have q3:=hc.at_ 3 rfl;have q4:=hc.at_ 4 rfl;have hgl:g<wr.heap.size:=Nat.lt_of_lt_of_le hg hb.size;have s0:wr.cell? ⟨w.heap.size,0,none⟩=some (.slice (some ⟨g,o,none⟩) b.length cap):=hbk.cell 0;have Hno0:=hidL hno0;have Hxe:=hidL hxe;clear hc hc0 hes hxe hr hrf hrg hri hno0;have hwa:=hb.alloc hb.size (.cells #[.string t.name,.bool t.enum,.slice A1 t.fields.length k1,.slice A2 t.gone.length k2,.slice A3 t.items.length k3] 53);have hbkn:=hbk.alloc (.cells #[.string t.name,.bool t.enum,.slice A1 t.fields.length k1,.slice A2 t.gone.length k2,.slice A3 t.items.length k3] 53);have hxn:Box (wr.alloc (.cells #[.string t.name,.bool t.enum,.slice A1 t.fields.length k1,.slice A2 t.gone.length k2,.slice A3 t.items.length k3] 53)) wr.heap.size 53 [.string t.name,.bool t.enum,.slice A1 t.fields.length k1,.slice A2 t.gone.length k2,.slice A3 t.items.length k3]:=Box.new wr _ _;go_wp2_with fail;refine(qL S _ b t.name _ ((RSl.fair ah.fair).below HB.out hwa)).mono ?_;rintro e w1 ⟨rfl,hb1⟩;have hw1:=aa hwa hb1 hwa.size;have hbk1:=hbkn.below hb1 hbkn.lt;have hx1:=hxn.below hb1 hxn.lt;have y1:w1.cell? ⟨wr.heap.size,1,none⟩=some (.bool t.enum):=hx1.cell 1;have hXl1:wr.heap.size<w1.heap.size:=hx1.lt;clear s0 q0 q1 q2 q3 q4 hwa hbkn hxn hx1 hb1;obtain⟨m,hm⟩:=exE (aZ b 4 t.name);rw[←hm];have Hm:=hidL hm;obtain⟨en,hen⟩:=exE t.enum;rw[←hen] at y1;have Hen:=hidL hen;clear hm hen;cases en with
      | true =>
       have Hf:Hid (lM b k hlt):=by show lM b k hlt;unfold lM;rw[←Hxe.out,←Hen.out];intro h;cases h
       go_wp2;go_roundw
       case rel=>exact⟨k+1,by go_num,by omega,Ad He.out hlt Hf.out,hbk1,hw1⟩
       case measure=>simp[intOf];omega
      | false =>
       by_cases hm1:1≤m
       ·by_cases hm2:m≤12
        ·have Hf:Hid (lM b k hlt):=by show lM b k hlt;unfold lM;rw[←Hxe.out,←Hm.out];exact fun _=>⟨hm1,hm2⟩
         go_wp2;go_roundw
         case rel=>exact⟨k+1,by go_num,by omega,Ad He.out hlt Hf.out,hbk1,hw1⟩
         case measure=>simp[intOf];omega
        ·have Hno:=hidL (Hno0.out (fun h=>by have:=(h Hen.out.symm).2;rw[←Hm.out] at this;omega));go_wp2;go_ret;exact⟨iB (by rw[Hno.out]),hw1⟩
       ·have Hno:=hidL (Hno0.out (fun h=>by have:=(h Hen.out.symm).1;rw[←Hm.out] at this;omega));go_wp2;go_ret;exact⟨iB (by rw[Hno.out]),hw1⟩
     ·have Hyes:=hidL (ZK h1 HT.out (fun j h=>He.out j h (by omega)));go_wp2;go_ret;exact⟨iB (by rw[Hyes.out]),hb⟩
 ·have Hno:=hidL (ZG h1);go_wp2;go_ret;exact⟨iB (by rw[Hno.out]),(Below.refl _ _).alloc (Nat.le_refl _) _⟩
end Go.Proofs.YtknnhpkjgnkcdaaGreatDoor
