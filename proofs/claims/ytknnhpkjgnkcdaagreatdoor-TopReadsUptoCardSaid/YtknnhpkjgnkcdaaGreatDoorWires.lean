/- Walks and plain laws. -/
import Derived.Test.YtknnhpkjgnkcdaaGreatDoorProg
import Derived.Test.YtknnhpkjgnkcdaaGreatDoorBase
import Derived.Deep.RegionHeld3
set_option linter.all false
set_option maxRecDepth 100000
set_option maxHeartbeats 8000000
namespace Go.Proofs.YtknnhpkjgnkcdaaGreatDoor
open Go.Proofs.Tryz
open Go.RowKit
def bD (p:Part):List Value:=[O p.id,O p.kind,O p.n,.string p.s]
abbrev Ms (p:Part):Value:=.agg #[O p.id,O p.kind,O p.n,.string p.s]
def dm:Rel Part:=dS bD
theorem tN (s:ByteArray):s.toList.isEmpty=decide (s.size=0):=by
 rw[ByteArray.toList_eq];obtain⟨⟨l⟩⟩:=s;cases l <;> simp[ByteArray.size]
theorem Eh {a b:Bool}(h:a=b):Ending.returned (.bool a)=.returned (.bool b):=by rw[h]
theorem AX (p:Part)(w:World)(hs:p.s.size≤maxLen) :
  Calls prog 151 #[Ms p] w (Ret w (.bool (iW p))):=by
 unfold maxLen at hs;obtain⟨id,kind,n,s⟩:=p;go_enter func151,ntmps151
 go_wp2
 all_goals
  go_ret;refine⟨Eh ?_,by simpa using(Below.refl _ _).alloc (Nat.le_refl _) _⟩
  go_tidy
  rw[Bool.eq_iff_iff];simp[iW,tN] at *
  first | omega | (constructor <;> intro h <;> first | exact⟨by omega,.inl ⟨by assumption,h⟩⟩ | (rcases h with ⟨_,h | h⟩ <;> first | exact h.2 | omega))
theorem Sw:dK prog 121 5 1 1:=.mk (z:=.int .u8 0) underlying121 (by decide) (by decide) (by kernel_rfl) rfl
theorem amR (m:Nat):bits .or .u8 ((m:Int) % 256) 128=((m % 128+128:Nat):Int):=by
 have h:∀ k:Fin 256,bits .or .u8 (k.val:Int) 128=((k.val % 128+128:Nat):Int):=by decide +kernel
 have:=h ⟨m % 256,by omega⟩;simp only at this;rw[show ((m:Int) % 256)=((m % 256:Nat):Int) from by omega,this];omega
theorem akD (base:Nat)(T:Nat→Prop)(v:Value)(xs:List UInt8)(n:Nat)(w:World)(hn:n<18446744073709551616)
  (hown:Own base 5 1 nW T w v xs) (hT:∀ g,T g→g<w.heap.size) (hx:xs.length≤1000000) (hb:base≤w.heap.size) :
  Calls prog 152 #[v,.int .u64 n] w fun e w'=>∃ v',e=.returned v'∧Own base 5 1 nW T w' v' (xs++sev n)∧w.grownBy w' v.ownBlock∧CK w v.ownBlock v':=by
 go_enter func152,ntmps152
 go_wp2
 have Hn:=hidL hn;clear hn;have HT:=hidL hT;clear hT;go_loopw [0,1] (fun v1 i wr=>∃ (m:Nat) (ys:List UInt8),i=.int .u64 m∧m≤n∧Hid (ys++sev m=xs++sev n)∧Own base 5 1 nW T wr v1 ys ∧
   w.grownBy wr v.ownBlock∧CK w v.ownBlock v1) (fun _ i _=>(intOf i).toNat)
 case atStart=>exact⟨n,xs,rfl,Nat.le_refl _,rfl,hown,World.grownBy.refl _ _,.inl rfl⟩
 case round =>
  obtain⟨m,ys,rfl,hmn,he,ho,hg,hv⟩:=hrel;have hyl:ys.length≤1000010:=by
   have h1:=congrArg List.length he.out;have h2:=Vm Hn.out;simp only[List.length_append] at h1;omega
  have hTr:∀ g,T g→g<wr.heap.size:=fun g hg'=>Nat.lt_of_lt_of_le (HT.out g hg') hg.size
  have HTr:=hidL hTr;clear hTr
  by_cases hm:m<128
  ·go_wp2_with (first | (at_builtin;refine bv _ rfl (.tmp 15) (.tmp 18) rfl Sw nW.fair rfl rfl (ho.alloc nW.fair _) (Src.one (es:=[.int .u8 m]) (y:=UInt8.ofNat m) rfl (gI.bK rfl) ?_ (ik.new _ _ _)) ?_ ?_ ?_ ?_))
   ·show [_]=[_];simp;omega
   ·intro g hg';have:=HTr.out g hg';simp;omega
   ·simp;omega
   ·have:=hg.size;simp;omega
   ·intro v2 w2 ho2 hg2 hv2;go_wp2;go_ret;refine⟨v2,rfl,?_,aF (jC hg _) hg2 hv,hv.step hv2 hg.size (by simp)⟩;rw[←he.out,sO hm];exact ho2
  ·obtain⟨y,hy⟩:=exE (UInt8.ofNat (m % 128+128));have Hy:=hidL hy;clear hy;go_wp2_with (first | (at_builtin;refine bv _ rfl (.tmp 7) (.tmp 11) rfl Sw nW.fair rfl rfl (ho.alloc nW.fair _) (Src.one (es:=[.int .u8 (bits .or .u8 ((m:Int) % 256) 128)]) (y:=y) rfl (gI.bK rfl) ?_ (ik.new _ _ _)) ?_ ?_ ?_ ?_))
   ·show [_]=[_];rw[amR,Hy.out];simp;omega
   ·intro g hg';have:=HTr.out g hg';simp;omega
   ·simp;omega
   ·have:=hg.size;simp;omega
   ·intro v2 w2 ho2 hg2 hv2;go_wp2;go_roundw
    case rel =>
     refine⟨m / 128,ys++[y],by go_num,by omega,?_,ho2,aF (jC hg _) hg2 hv,hv.step hv2 hg.size (by simp)⟩;show _=_;rw[List.append_assoc,←he.out,La hm,Hy.out];rfl
    case measure=>simp[intOf];omega
theorem WV (base:Nat)(T:Nat→Prop)(v:Value)(xs:List UInt8)(n:Int)(w:World)(h0:0≤n)(hn:n<18446744073709551616)
  (hown:Own base 5 1 nW T w v xs) (hT:∀ g,T g→g<w.heap.size) (hx:xs.length≤1000000) (hb:base≤w.heap.size) :
  Calls prog 152 #[v,.int .u64 n] w fun e w'=>∃ v',e=.returned v'∧Own base 5 1 nW T w' v' (xs++sev n.toNat)∧w.grownBy w' v.ownBlock∧CK w v.ownBlock v':=by
 obtain⟨m,rfl⟩:=Int.eq_ofNat_of_zero_le h0;exact akD base T v xs m w (by omega) hown hT hx hb
theorem dm.fair:Fair dm:=dS.fair _
theorem akl:(prog.info? 5).bind (·.zero)=some (.int .u8 0):=by kernel_rfl
def amg (w:World)(x y:Value)(e:Ending)(w':World):Prop:=e=.returned (.tuple #[x,y])∧Below w.heap.size w w'
theorem uu (S:Nat→Prop)(vl:Value)(l:List Part)(w:World)(hl:RSl 4 40 dm S w [vl] l)(hp:∀ p∈l,p.s.size≤maxLen) :
  Calls prog 111 #[vl] w (amg w (.string ⟨(jD l []).1.toArray⟩) (O (jD l []).2)):=by
 obtain⟨A,cap,rfl,hlc,hlb⟩:=hl.form;have hlen:l.length≤9223372036854775807:=by omega
 have HL:=hidL hl;have HP:=hidL hp;clear hl hp;go_enter func111,ntmps111;go_wp2_with fail;go_loopw [4,9] (fun v i wr=>∃ (k:Nat) (acc:List UInt8),i=O k∧k≤l.length∧Hid (jD (l.drop k) acc=jD l [])∧Own w.heap.size 5 1 nW NoT wr v acc ∧
   acc.length≤20000∧Below w.heap.size w wr) (fun _ i _=>l.length-(intOf i).toNat)
 case atStart=>exact⟨0,[],rfl,by omega,rfl,Own.dJ _ _ _ _ _ _,by simp,Below.refl _ _⟩
 case round =>
  obtain⟨k,acc,rfl,hk,he,ho,hacc,hb⟩:=hrel
  by_cases hlt:k<l.length
  ·have hd:l.drop k=l[k]::l.drop (k+1):=List.drop_eq_getElem_cons hlt;obtain⟨g,o,es,rfl,hS,hg,hes,hr,hc⟩:=((RSl.fair dm.fair).keep HL.out (az.of_below hb)).at_ hlt;have hps:=HP.out l[k] (List.getElem_mem hlt);obtain⟨p,hpe⟩:=exE (l[k]);rw[←hpe] at hr hd hps;have Hd:=hidL hd;have Hpe:=hidL hpe;clear hd hpe;have hr':es=bD p:=hr;subst hr';have c0:=hc.a0 rfl;have c1:=hc.at_ 1 rfl;have c2:=hc.at_ 2 rfl;have c3:=hc.at_ 3 rfl;go_wp2_with fail;refine(AX p _ hps).mono ?_;rintro e w1 ⟨rfl,hb1⟩;have hbx:Box w1 wr.heap.size 178 (bD p):=(Box.new wr _ (bD p)).below hb1 (by simp);have ho1:=(ho.alloc nW.fair _).below nW.fair hb1;have hbw:Below w.heap.size w w1:=aa (hb.alloc hb.size _) hb1 (by have:=hb.size;simp;omega);have d0:LL w1 wr.heap.size 0 (O p.id):=hbx.cell 0;have d1:LL w1 wr.heap.size 1 (O p.kind):=hbx.cell 1;have d2:LL w1 wr.heap.size 2 (O p.n):=hbx.cell 2;have d3:LL w1 wr.heap.size 3 (.string p.s):=hbx.cell 3;have hsz1:=hb1.size;simp at hsz1;clear hb1 hb ho hc c0 c1 c2 c3 hS hg hr hes
   by_cases hgp:iW p=true
   ·have hid:1≤p.id∧p.id≤30∧0≤p.kind∧p.kind≤2 ∧ -1099511627776≤p.n∧p.n≤1099511627776∧p.s.size≤20000:=by
     simp[iW] at hgp;omega
    obtain⟨i1,i2,i3,i4,i5,i6,i7⟩:=hid;go_wp2_with fail;refine(WV w.heap.size NoT _ _ _ _ ?_ ?_ ho1 (NoT.lt _) (by omega) hbw.size).mono ?_
    ·rw[acv _ _ (by omega) i2 i3 (by omega)];omega
    ·rw[acv _ _ (by omega) i2 i3 (by omega)];omega
    rintro e w2 ⟨v2,rfl,ho2,hg2,hn2⟩;rw[acv _ _ (by omega) i2 i3 (by omega)] at ho2;have hl2:(acc++sev (4*p.id+p.kind).toNat).length≤20006:=by
     rw[List.length_append];have:=xx (show (4*p.id+p.kind).toNat<4398046511104 by omega);omega
    have hbx2:Box w2 wr.heap.size 178 (bD p):=hbx.grown hg2 (hbx.gV ho1 (by decide));have hbw2:Below w.heap.size w w2:=below_grown hbw hg2 hbw.size (fun g' h=>(ho1.lt h).1);have e0:LL w2 wr.heap.size 0 (O p.id):=hbx2.cell 0;have e1:LL w2 wr.heap.size 1 (O p.kind):=hbx2.cell 1;have e2:LL w2 wr.heap.size 2 (O p.n):=hbx2.cell 2;have e3:LL w2 wr.heap.size 3 (.string p.s):=hbx2.cell 3;have hsz2:=hg2.size;clear hg2 hbx hbw ho1 d0 d1 d2 d3
    by_cases hk0:p.kind=0
    ·go_wp2_with fail;refine(WV w.heap.size NoT v2 _ _ _ ?_ ?_ ho2 (NoT.lt _) (by omega) hbw2.size).mono ?_
     ·rw[XX _ i5 i6];split <;> omega
     ·rw[XX _ i5 i6];split <;> omega
     rintro e w4 ⟨v3,rfl,ho4,hg4,hn4⟩;have hbw4:Below w.heap.size w w4:=below_grown hbw2 hg4 hbw2.size (fun g' h=>(ho2.lt h).1);rw[XX _ i5 i6,amv] at ho4;clear hg4 hbw2 ho2 e0 e1 e2 e3;have hE:acc++lN p=acc++sev (4*p.id+p.kind).toNat++sev (zig p.n):=by simp[lN,hk0]
     rw[←hE] at ho4;clear hE;obtain⟨acc3,ha3⟩:=exE (acc++lN p);rw[←ha3] at ho4;have HA3:=hidL ha3;clear ha3;obtain⟨A3,cap3,rfl,hc3⟩:=ho4.form;have hal:acc3.length≤9223372036854775807:=by
      rw[HA3.out,List.length_append];have:=ZX p hgp;omega
     by_cases h20:20000<acc3.length
     ·go_wp2_with fail
      go_ret2
      refine⟨?_,hbw4⟩;rw[←he.out,Hd.out,jD,if_pos hgp,←HA3.out,if_pos h20];rfl
     ·go_wp2;go_roundw
      case rel =>
       refine⟨k+1,acc3,by go_num,by omega,?_,ho4,by omega,hbw4⟩;show _=_;rw[←he.out,Hd.out,jD,if_pos hgp,←HA3.out,if_neg h20]
      case measure=>simp[intOf];omega
    ·go_wp2_with fail;have hbd:=au hbw2;have hod:=ho2.drew nW.fair;have hbxd:Box w2.drew wr.heap.size 178 (bD p):=hbx2;have hl3:(acc++sev (4*p.id+p.kind).toNat++sev p.s.size).length≤20012:=by
      rw[List.length_append];have:=xx (show p.s.size<4398046511104 by omega);omega
     have hwr:IntKind.u64.wrap (p.s.size:Int)=p.s.size:=by simp only[IntKind.wrap_u64];omega
     go_region_held3 (fun w'=>LL w' wr.heap.size 3 (.string p.s)) (first | exact e3 | exact f3 | exact f4)
      (first
       | (go_at_call 152;go_must (refine(WV w.heap.size NoT v2 _ _ _ (by omega) (by omega) hod (NoT.lt _) (by omega) hbd.size).mono ?_);rintro e w3 ⟨v3,rfl,ho3,hg3,hn3⟩;have hbw3:Below w.heap.size w w3:=below_grown hbd hg3 hbd.size (fun g' h=>(hod.lt h).1);have hbx3:Box w3 wr.heap.size 178 (bD p):=hbxd.grown hg3 (hbxd.gV hod (by decide));have f3:LL w3 wr.heap.size 3 (.string p.s):=hbx3.cell 3;rw[show ((p.s.size:Int)).toNat=p.s.size from by omega] at ho3)
       | (refine NQ _ rfl (.tmp 44) (.tmp 46) rfl Sw akl underlying9 rfl rfl ho3 (NoT.lt _) (by omega) hbw3.size ?_;intro v4 w4 ho4 hg4 hv4;have hbw4:Below w.heap.size w w4:=below_grown hbw3 hg4 hbw3.size (fun g' h=>(ho3.lt h).1);have f4:LL w4 wr.heap.size 3 (.string p.s):=(hbx3.grown hg4 (hbx3.gV ho3 (by decide))).cell 3))
     clear hwr;have hE:acc++lN p=acc++sev (4*p.id+p.kind).toNat++sev p.s.size++bytes p.s:=by simp[lN,hk0]
     rw[←hE] at ho4;clear hE;obtain⟨acc3,ha3⟩:=exE (acc++lN p);rw[←ha3] at ho4;have HA3:=hidL ha3;clear ha3;obtain⟨A3,cap3,rfl,hc3⟩:=ho4.form;have hal:acc3.length≤9223372036854775807:=by
      rw[HA3.out,List.length_append];have:=ZX p hgp;omega
     by_cases h20:20000<acc3.length
     ·go_wp2_with fail
      go_ret2
      refine⟨?_,hbw4⟩;rw[←he.out,Hd.out,jD,if_pos hgp,←HA3.out,if_pos h20];rfl
     ·go_wp2;go_roundw
      case rel =>
       refine⟨k+1,acc3,by go_num,by omega,?_,ho4,by omega,hbw4⟩;show _=_;rw[←he.out,Hd.out,jD,if_pos hgp,←HA3.out,if_neg h20]
      case measure=>simp[intOf];omega
   ·simp only[Bool.not_eq_true] at hgp;go_wp2_with fail
    go_ret2
    refine⟨?_,hbw⟩;rw[←he.out,Hd.out];simp[jD,hgp]
  ·have hd:l.drop k=[]:=List.drop_eq_nil_of_le (by omega);rw[hd] at he;have hfin:jD l []=(acc,0):=he.out.symm;have HF:=hidL hfin;clear hfin hd he;have hst:=fun W v (ho':Own w.heap.size 5 1 nW NoT W v acc)=>Tx (P:=prog) W (t:=121) (u:=9) underlying121 underlying5 underlying9 ho'
   go_wp2_with fail
   go_ret2
   refine⟨?_,hb⟩;rw[HF.out];rfl
theorem tJ:dK prog 176 178 4 40:=.mk (z:=.agg #[O 0,O 0,O 0,.string .empty]) underlying176 (by decide) (by decide) (by kernel_rfl) rfl
theorem dm.ones:pE dm:=by
 intro S w cs x h;have h':cs=bD x:=h;subst h';exact gI.bK rfl
def P1:Part:=⟨1,0,-1,⟨#[]⟩⟩
def P2:Part:=⟨2,1,0,⟨#[97]⟩⟩
def Wm (g:Nat)(s:ByteArray)(bad:Bool)(w:World)(e:Ending)(w':World):Prop :=
 ∃ s':ByteArray,e=.returned (.int .u64 (tH (bytes s)).1)∧Hid (bytes s'=(bytes s).drop (tH (bytes s)).2.1) ∧
   Box w' g 234 [.string s',.bool (bad||(tH (bytes s)).2.2)]∧w.grownBy w' (some g)
theorem aeY {g:Nat}{s:ByteArray}{bad b:Bool}{w:World}{k n:Nat}{x:Int}(hbx:Box w g 234 [.string s,.bool bad])
  (he:nH (bytes s) (6-k) k n=tH (bytes s)) (h6:k<6) (hk:k<(bytes s).length) (hc:(bytes s)[k].toNat<128) (hn:n<128 ^ k)
  (hx:x=bits .or .u64 (n:Int) (IntKind.u64.wrap (IntKind.u64.wrap (bits .and .u8 ((bytes s)[k].toNat:Int) 127)*2 ^ (7*k))))
  (hb:b=(bad||decide ((bytes s)[k].toNat=0∧0<k))) :
  Wm g s bad w (.returned (.int .u64 x)) ((w.setCell ⟨g,1,none⟩ (.bool b)).setCell ⟨g,0,none⟩ (.string (s.extract (k+1) s.size))):=by
 have hres:=VL (n:=n) h6 hk hc;rw[he] at hres;refine⟨s.extract (k+1) s.size,?_,?_,?_,?_⟩
 ·rw[hres,hx,ajz n _ k h6 hn (bytes s)[k].toNat_lt];simp only;rw[Nat.mod_eq_of_lt hc]
 ·show _=_;rw[hres,uK]
 ·rw[hres];subst hb;exact(hbx.gB 1 _).gB 0 _
 ·exact iV (p:=⟨g,0,none⟩) (iV (p:=⟨g,1,none⟩) (World.grownBy.refl _ _) (.inl rfl) _) (.inl rfl) _
theorem aeK (g:Nat)(s:ByteArray)(bad:Bool)(w:World)(_hs:s.size≤20000)(hbx:Box w g 234 [.string s,.bool bad]) :
  Calls prog 160 #[.pointer (some ⟨g,0,none⟩)] w (Wm g s bad w):=by
 have c0:LL w g 0 (.string s):=hbx.cell 0;have c1:LL w g 1 (.bool bad):=hbx.cell 1;have f0:w.frozen? ⟨g,0,none⟩=false:=hbx.frozen 0;have f1:w.frozen? ⟨g,1,none⟩=false:=hbx.frozen 1;have HB:=hidL hbx;clear hbx;go_enter func160,ntmps160;go_wp2_with fail
 go_loop [3,4] (fun v i=>∃ (k n:Nat),i=O k∧k≤6∧v=.int .u64 n∧Hid (n<128 ^ k)∧Hid (nH (bytes s) (6-k) k n=tH (bytes s))) (fun _ i=>6-(intOf i).toNat)
 case atStart=>exact⟨0,0,rfl,by omega,rfl,(by decide:0<128 ^ 0),rfl⟩
 case round =>
  obtain⟨k,n,rfl,hk,rfl,hn,he⟩:=hrel
  by_cases hlt:k<6∧k<s.size
  ·obtain⟨h6,hks⟩:=hlt
   by_cases hc:s[k].toNat<128
   ·cases bad
    ·go_wp2_with fail
     all_goals
      go_ret;exact aeY (n:=n) HB.out he.out h6 hks hc hn.out (by first | rfl | (rw[show (bytes s)[k].toNat=0 from by assumption];rfl)) (by rw[show (bytes s)[k].toNat=s[k].toNat from rfl,eq_comm,Bool.eq_iff_iff];simp only[Bool.false_or,Bool.or_eq_true,decide_eq_true_eq,Bool.true_or,beq_iff_eq,Bool.false_eq_true,iff_false,iff_true];omega)
    ·go_wp2_with fail
     all_goals
      go_ret;exact aeY (n:=n) HB.out he.out h6 hks hc hn.out (by first | rfl | (rw[show (bytes s)[k].toNat=0 from by assumption];rfl) | (rw[show (bytes s)[0].toNat=0 from by assumption];rfl)) (by first | (rw[show (bytes s)[k].toNat=s[k].toNat from rfl];simp[*];done) | (rw[show (bytes s)[0].toNat=s[0].toNat from rfl];simp[*];done) | simp)
   ·go_wp2_with fail
    go_round
    case rel =>
     have hres:=abv (n:=n) h6 hks hc;refine⟨k+1,n+s[k].toNat % 128*128 ^ k,by go_num,by omega,by rw[ajz n _ k h6 hn.out s[k].toNat_lt],?_,?_⟩
     ·have:=hn.out;show _<_;rw[Nat.pow_succ];have h3:(s[k].toNat % 128)*128 ^ k≤127*128 ^ k:=Nat.mul_le_mul_right _ (by omega);omega
     ·show _=_;rw[←he.out,hres];rfl
    case measure=>simp[intOf];omega
  ·have hres:=Vq (s:=bytes s) (n:=n) hk hlt;rw[he.out] at hres;have Hres:=hidL hres;clear hres;have fin:Wm g s bad w (.returned (.int .u64 0)) (w.setCell ⟨g,1,none⟩ (.bool true)):=by
    refine⟨s,?_,?_,?_,?_⟩
    ·rw[Hres.out];rfl
    ·show _=_;rw[Hres.out];rfl
    ·rw[Hres.out];simpa using HB.out.gB 1 (.bool true)
    ·exact iV (p:=⟨g,1,none⟩) (World.grownBy.refl _ _) (.inl rfl) _
   have Fin:=hidL fin;clear fin
   by_cases h6:k<6
   ·go_wp2_with fail
    all_goals
     go_ret;exact Fin.out
   ·go_wp2_with fail
    all_goals
     go_ret;exact Fin.out
def OH (w:World)(r:List Part × Int)(e:Ending)(w':World):Prop :=
 ∃ v,e=.returned (.tuple #[v,O r.2])∧RSl 4 40 dm (fun g=>w.heap.size≤g) w' [v] r.1∧Below w.heap.size w w'∧(∀ p∈r.1,p.s.size≤20000)∧r.1.length≤20000
theorem Bq (s:ByteArray)(w:World)(hs:s.size≤maxLen) :
  Calls prog 120 #[.string s] w (OH w (mV (bytes s))):=by
 unfold maxLen at hs
 by_cases hlong:20000<s.size
 ·go_enter func120,ntmps120;go_wp2_with fail
  go_ret2
  have:mV (bytes s)=([],7):=by rw[mV,if_pos (show 20000<(bytes s).length from hlong)]
  rw[this];exact⟨_,rfl,RSl.dJ,Below.refl _ _,by simp,by simp⟩
 ·have hd:mV (bytes s)=tZ (bytes s).length (bytes s) []:=by rw[mV,if_neg (show ¬ 20000<(bytes s).length from hlong)]
  have Hd:=hidL hd;clear hd;go_enter func120,ntmps120;go_wp2_with fail;go_loopw [5] (fun v wr=>∃ (rs:ByteArray) (acc:List Part),Own w.heap.size 178 4 dm NoT wr v acc∧Box wr w.heap.size 234 [.string rs,.bool false]∧v.ownBlock≠some w.heap.size ∧
    Hid (tZ (bytes rs).length (bytes rs) acc=mV (bytes s))∧acc.length+rs.size≤20000∧(∀ p∈acc,p.s.size≤20000)∧Below w.heap.size w wr) (fun _ wr=>acf wr w.heap.size)
  case atStart=>exact⟨s,[],Own.dJ _ _ _ _ _ _,Box.new w _ [.string s,.bool false],by simp[Value.ownBlock],Hd.out.symm,by simp;omega,by simp,(Below.refl _ _).alloc (Nat.le_refl _) _⟩
  case round =>
   obtain⟨rs,acc,ho,hbx,hvg,he,hacc,hps,hb⟩:=hrel;have c0:LL wr w.heap.size 0 (.string rs):=hbx.cell 0
   by_cases hemp:rs.size=0
   ·have hemp':rs.toList.isEmpty=true:=by rw[tN];simpa using hemp
    go_wp2_with fail
    go_ret2
    have hrs:bytes rs=[]:=List.eq_nil_of_length_eq_zero hemp;rw[hrs,AU] at he;rw[←he.out];refine⟨_,rfl,ho.read dm.fair (fun g h=>h.elim) (fun k hk=>(ho.lt hk).1) (by show acc.length*40≤_;omega),hb,hps,by show acc.length≤_;omega⟩
   ·have hemp':rs.toList.isEmpty=false:=by rw[tN];simpa using hemp
    go_wp2_with fail;refine(aeK w.heap.size rs false _ (by omega) hbx).mono ?_;rintro e w1 ⟨s1,rfl,hs1,hbx1,hg1⟩;have hkey:=JR (bytes rs);have hm1:=Em (bytes rs);generalize hr1:tH (bytes rs)=r1 at *;obtain⟨key,m1,b1⟩:=r1;simp only[Bool.false_or] at hs1 hbx1 hkey hm1;have HR1:=hidL hr1;clear hr1;have hk3:=anm key (by omega);have ho1:Own w.heap.size 178 4 dm NoT w1 _ acc:=ho.kept dm.fair hg1 (.inr hvg) (fun k _ h=>h);have hw1:Below w.heap.size w w1:=below_grown hb hg1 hb.size (by rintro k hk;cases hk;exact Nat.le_refl _);have hgw:w.heap.size<w1.heap.size:=hbx1.lt;have hs1l:s1.size≤20000:=by
     have:=congrArg List.length hs1.out;simp only[iY,List.length_drop] at this;omega
    have Hc0:=hidL c0;clear hg1 hb ho hbx c0;have hbp:Box (w1.alloc (.cells #[O ((key / 4:Nat):Int),O ((key % 4:Nat):Int),O 0,E0] 178)) w1.heap.size 178 [O ((key / 4:Nat):Int),O ((key % 4:Nat):Int),O 0,E0]:=Box.new w1 _ _;go_wp2_with fail;refine(aeK w.heap.size s1 b1 _ hs1l (hbx1.alloc _)).mono ?_;rintro e w2 ⟨s2,rfl,hs2,hbx2,hg2⟩;have hn:=JR (bytes s1);have hm2:=Em (bytes s1);generalize hr2:tH (bytes s1)=r2 at *;obtain⟨n,m2,b2⟩:=r2;simp only at hs2 hbx2 hn hm2;have HR2:=hidL hr2;clear hr2;have hbp2:=hbp.grown hg2 (by simp;omega);have ho2:Own w.heap.size 178 4 dm NoT w2 _ acc:=(ho1.alloc dm.fair _).kept dm.fair hg2 (.inr hvg) (fun k _ h=>h);have hvp:=fun k (hk:Value.ownBlock _=some k)=>(ho1.lt hk).2
    have hw2:Below w.heap.size w w2:=below_grown (hw1.alloc hw1.size _) hg2 (by have:=hw1.size;simp;omega) (by rintro k hk;cases hk;exact Nat.le_refl _);have hpw:w1.heap.size<w2.heap.size:=hbp2.lt;have hs2l:s2.size≤20000:=by
     have:=congrArg List.length hs2.out;simp only[iY,List.length_drop] at this;omega
    clear hg2 ho1 hw1 hbp hbx1;have p0:LL w2 w1.heap.size 0 (O ((key / 4:Nat):Int)):=hbp2.cell 0;have p1:LL w2 w1.heap.size 1 (O ((key % 4:Nat):Int)):=hbp2.cell 1;have p2:LL w2 w1.heap.size 2 (O 0):=hbp2.cell 2;have p3:LL w2 w1.heap.size 3 (E0):=hbp2.cell 3;have pf2:w2.frozen? ⟨w1.heap.size,2,none⟩=false:=hbp2.frozen 2;have pf3:w2.frozen? ⟨w1.heap.size,3,none⟩=false:=hbp2.frozen 3;have r0:LL w2 w.heap.size 0 (.string s2):=hbx2.cell 0;have r1:LL w2 w.heap.size 1 (.bool (b1||b2)):=hbx2.cell 1;have rf0:w2.frozen? ⟨w.heap.size,0,none⟩=false:=hbx2.frozen 0;have rf1:w2.frozen? ⟨w.heap.size,1,none⟩=false:=hbx2.frozen 1;have hne:(w.heap.size=w1.heap.size)=False:=by simp;omega
    have hne':(w1.heap.size=w.heap.size)=False:=by simp;omega
    have hn1:=and1 n (by omega);have hx0:=ahd n (by omega);have hx1:=acE n (by omega);have Hbp2:=hidL hbp2;have Hbx2:=hidL hbx2;clear hbp2 hbx2;have hst:ul (bytes rs)=_:=Bf (n:=n) (m2:=m2) (b2:=b2) HR1.out (by rw[←hs1.out];exact HR2.out);rw[←hs1.out,←hs2.out] at hst;have Hst:=hidL hst;clear hst;have hrne:bytes rs≠[]:=by intro h;exact hemp (congrArg List.length h)
    have bad:ul (bytes rs)=none→∀ W,Below w.heap.size w W→OH w (mV (bytes s)) (.returned (.tuple #[Z0,O 1])) W:=by
     intro h W hw2;rw[←he.out,Az hrne h];exact⟨_,rfl,RSl.dJ,hw2,by simp,by simp⟩
    have Bad:=hidL bad;clear bad
    by_cases hbb:(b1||b2)=true
    ·have hnone:ul (bytes rs)=none:=by rw[Hst.out,if_pos (by simpa using hbb)]
     rw[hbb] at r1;have hB:=Bad.out hnone;have HB:=hidL hB;clear hB hnone hbb hn1 hx0 hx1
     by_cases hk4:key % 4=0
     ·go_wp2_with fail
      go_ret2
      exact HB.out _ (hw2.setCell (p:=⟨w1.heap.size,2,none⟩) (by show w.heap.size≤w1.heap.size;omega) _)
     ·by_cases hnl:(n:Int)≤s2.size
      ·go_wp2_with fail
       go_region
       all_goals
        go_wp2_with fail
        go_ret2
        exact HB.out _ (((au hw2).setCell (p:=⟨w1.heap.size,3,none⟩) (by show w.heap.size≤w1.heap.size;omega) _).setCell (p:=⟨w.heap.size,0,none⟩) (Nat.le_refl _) _)
      ·go_wp2_with fail
       go_ret2
       exact HB.out _ (hw2.setCell (p:=⟨w.heap.size,1,none⟩) (Nat.le_refl _) _)
    ·have hb1:b1=false:=by cases b1 <;> simp_all
     have hb2:b2=false:=by cases b2 <;> simp_all
     subst hb1 hb2;have hst2:=Hst.out;rw[if_neg (by simp)] at hst2;have Hst2:=hidL hst2;clear hst2 hbb Hst
     by_cases hk4:key % 4=0
     ·by_cases hn2:n % 2=0
      ·have hbP:=Hbp2.out.gB 2 (O ((n:Int) / 2));have hbR:=Hbx2.out.far (p:=⟨w1.heap.size,2,none⟩) (by show w.heap.size≠w1.heap.size;omega) (O ((n:Int) / 2));have hoW:=ho2.setCell dm.fair (p:=⟨w1.heap.size,2,none⟩) (O ((n:Int) / 2)) (by intro h;have:=hvp _ h;simp at this) (fun h=>h);have hwW:=hw2.setCell (p:=⟨w1.heap.size,2,none⟩) (by show w.heap.size≤w1.heap.size;omega) (O ((n:Int) / 2));have hst3:=Hst2.out;rw[if_pos hk4,Ka hn2] at hst3;have HS3:=hidL hst3;clear hst3;go_wp2_with fail;refine(AX ⟨_,_,_,_⟩ _ ?_).mono ?_
       ·unfold maxLen;show ByteArray.size _≤_;first | exact Nat.zero_le _ | omega
       rintro e w3 ⟨rfl,hb3⟩;have hbP3:=hbP.below hb3 hbP.lt;have hbR3:=hbR.below hb3 hbR.lt;have ho3:=hoW.below dm.fair hb3;have hw3:=aa hwW hb3 hwW.size;have hpw3:=hbP3.lt;clear hb3 hbP hbR hoW hwW p0 p1 p2 p3 pf2 pf3 r0 r1 rf0 rf1 ho2 hw2;obtain⟨p,hp⟩:=exE (⟨(key:Int) / 4,0,(n:Int) / 2,⟨#[]⟩⟩:Part);rw[←hp] at HS3 ⊢;have hcs:bD p=_:=congrArg bD hp;replace hbP3:Box w3 w1.heap.size 178 (bD p):=by rw[hp];first | exact hbP3 | (rw[hk4] at hbP3;exact hbP3)
       clear hcs hp;have q0:LL w3 w1.heap.size 0 (O p.id):=hbP3.cell 0;have q1:LL w3 w1.heap.size 1 (O p.kind):=hbP3.cell 1;have q2:LL w3 w1.heap.size 2 (O p.n):=hbP3.cell 2;have q3:LL w3 w1.heap.size 3 (.string p.s):=hbP3.cell 3
       by_cases hgp:iW p=true
       ·have hst4:=HS3.out;rw[if_pos hgp] at hst4;have hlt4:=wU hst4;have he4:=Cg (acc:=acc) hrne hst4;rw[he.out] at he4;have He4:=hidL he4;clear hst4 he4;simp only[iY] at hlt4;go_wp2_with (first | (at_builtin;refine bv _ rfl (.tmp 79) (.tmp 81) rfl tJ dm.fair rfl rfl (ho3.alloc dm.fair _) (Src.one (es:=bD p) (y:=p) rfl (gI.bK rfl) rfl (ik.new _ _ _)) (NoT.lt _) ?_ ?_ ?_))
        ·simp;omega
        ·have:=hw3.size;simp;omega
        intro v4 w4 ho4 hg4 hv4;have hbR4:=(hbR3.alloc (.cells (bD p).toArray 178)).grown hg4 hvg;have c4:=hbR4.cell 0;go_wp2;go_roundw
        case rel =>
         refine⟨s2,acc++[p],ho4,hbR4,?_,He4.out.symm,(by rw[show (acc++[p]).length=acc.length+1 from by simp];omega),?_,below_grown (hw3.alloc hw3.size _) hg4 (by have:=hw3.size;simp;omega) (fun k hk=>(ho3.lt hk).1)⟩
         ·rcases hv4 with h | h
          ·rw[h];exact hvg
          ·rw[h];simp;have:=hbR3.lt;omega
         ·intro x hx;rcases List.mem_append.1 hx with h | h
          ·exact hps x h
          ·simp at h;subst h;simp[iW] at hgp;omega
        case measure=>rw[wT c4,wT Hc0.out];exact hlt4
       ·simp only[Bool.not_eq_true] at hgp;have hst4:=HS3.out;rw[if_neg (by simp[hgp])] at hst4;have he4:=Az (acc:=acc) hrne hst4;rw[he.out] at he4;have He4:=hidL he4;clear hst4 he4;go_wp2_with fail
        go_ret2
        rw[He4.out];exact⟨_,rfl,RSl.dJ,hw3,by simp,by simp⟩
      ·have hn21:n % 2=1:=by omega
       have hbP:=Hbp2.out.gB 2 (O (-((n:Int) / 2)-1));have hbR:=Hbx2.out.far (p:=⟨w1.heap.size,2,none⟩) (by show w.heap.size≠w1.heap.size;omega) (O (-((n:Int) / 2)-1));have hoW:=ho2.setCell dm.fair (p:=⟨w1.heap.size,2,none⟩) (O (-((n:Int) / 2)-1)) (by intro h;have:=hvp _ h;simp at this) (fun h=>h);have hwW:=hw2.setCell (p:=⟨w1.heap.size,2,none⟩) (by show w.heap.size≤w1.heap.size;omega) (O (-((n:Int) / 2)-1));have hst3:=Hst2.out;rw[if_pos hk4,OY hn2] at hst3;have HS3:=hidL hst3;clear hst3;go_wp2_with fail;refine(AX ⟨_,_,_,_⟩ _ ?_).mono ?_
       ·unfold maxLen;show ByteArray.size _≤_;first | exact Nat.zero_le _ | omega
       rintro e w3 ⟨rfl,hb3⟩;have hbP3:=hbP.below hb3 hbP.lt;have hbR3:=hbR.below hb3 hbR.lt;have ho3:=hoW.below dm.fair hb3;have hw3:=aa hwW hb3 hwW.size;have hpw3:=hbP3.lt;clear hb3 hbP hbR hoW hwW p0 p1 p2 p3 pf2 pf3 r0 r1 rf0 rf1 ho2 hw2;obtain⟨p,hp⟩:=exE (⟨(key:Int) / 4,0,-((n:Int) / 2)-1,⟨#[]⟩⟩:Part);rw[←hp] at HS3 ⊢;have hcs:bD p=_:=congrArg bD hp;replace hbP3:Box w3 w1.heap.size 178 (bD p):=by rw[hp];first | exact hbP3 | (rw[hk4] at hbP3;exact hbP3)
       clear hcs hp;have q0:LL w3 w1.heap.size 0 (O p.id):=hbP3.cell 0;have q1:LL w3 w1.heap.size 1 (O p.kind):=hbP3.cell 1;have q2:LL w3 w1.heap.size 2 (O p.n):=hbP3.cell 2;have q3:LL w3 w1.heap.size 3 (.string p.s):=hbP3.cell 3
       by_cases hgp:iW p=true
       ·have hst4:=HS3.out;rw[if_pos hgp] at hst4;have hlt4:=wU hst4;have he4:=Cg (acc:=acc) hrne hst4;rw[he.out] at he4;have He4:=hidL he4;clear hst4 he4;simp only[iY] at hlt4;go_wp2_with (first | (at_builtin;refine bv _ rfl (.tmp 79) (.tmp 81) rfl tJ dm.fair rfl rfl (ho3.alloc dm.fair _) (Src.one (es:=bD p) (y:=p) rfl (gI.bK rfl) rfl (ik.new _ _ _)) (NoT.lt _) ?_ ?_ ?_))
        ·simp;omega
        ·have:=hw3.size;simp;omega
        intro v4 w4 ho4 hg4 hv4;have hbR4:=(hbR3.alloc (.cells (bD p).toArray 178)).grown hg4 hvg;have c4:=hbR4.cell 0;go_wp2;go_roundw
        case rel =>
         refine⟨s2,acc++[p],ho4,hbR4,?_,He4.out.symm,(by rw[show (acc++[p]).length=acc.length+1 from by simp];omega),?_,below_grown (hw3.alloc hw3.size _) hg4 (by have:=hw3.size;simp;omega) (fun k hk=>(ho3.lt hk).1)⟩
         ·rcases hv4 with h | h
          ·rw[h];exact hvg
          ·rw[h];simp;have:=hbR3.lt;omega
         ·intro x hx;rcases List.mem_append.1 hx with h | h
          ·exact hps x h
          ·simp at h;subst h;simp[iW] at hgp;omega
        case measure=>rw[wT c4,wT Hc0.out];exact hlt4
       ·simp only[Bool.not_eq_true] at hgp;have hst4:=HS3.out;rw[if_neg (by simp[hgp])] at hst4;have he4:=Az (acc:=acc) hrne hst4;rw[he.out] at he4;have He4:=hidL he4;clear hst4 he4;go_wp2_with fail
        go_ret2
        rw[He4.out];exact⟨_,rfl,RSl.dJ,hw3,by simp,by simp⟩
     ·by_cases hnl:n≤s2.size
      ·have hbP:=(Hbp2.out.drew.gB 3 (.string (s2.extract 0 n))).far (p:=⟨w.heap.size,0,none⟩) (by show w1.heap.size≠w.heap.size;omega) (.string (s2.extract n s2.size));have hbR:=(Hbx2.out.drew.far (p:=⟨w1.heap.size,3,none⟩) (by show w.heap.size≠w1.heap.size;omega) (.string (s2.extract 0 n))).gB 0 (.string (s2.extract n s2.size));have hoW:=((ho2.drew dm.fair).setCell dm.fair (p:=⟨w1.heap.size,3,none⟩) (.string (s2.extract 0 n)) (by intro h;have:=hvp _ h;simp at this) (fun h=>h)).setCell dm.fair (p:=⟨w.heap.size,0,none⟩) (.string (s2.extract n s2.size)) hvg (fun h=>h);have hwW:=((au hw2).setCell (p:=⟨w1.heap.size,3,none⟩) (by show w.heap.size≤w1.heap.size;omega) (.string (s2.extract 0 n))).setCell (p:=⟨w.heap.size,0,none⟩) (Nat.le_refl _) (.string (s2.extract n s2.size));have hnl':(n:Int)≤s2.size:=by omega
       have hzl:(s2.extract 0 n).size≤20000:=by simp;omega
       have hst3:=Hst2.out;rw[if_neg hk4,if_pos (show n≤(bytes s2).length from hnl),←Rm,←uK,←qb (s:=s2.extract 0 n) rfl] at hst3;have HS3:=hidL hst3;clear hst3;go_wp2_with fail
       go_region
       go_wp2_with fail;refine(AX ⟨(key:Int) / 4,(key:Int) % 4,0,s2.extract 0 n⟩ _ ?_).mono ?_
       ·unfold maxLen;show (s2.extract 0 n).size≤_;omega
       rintro e w3 ⟨rfl,hb3⟩;have hbP3:=hbP.below hb3 hbP.lt;have hbR3:=hbR.below hb3 hbR.lt;have ho3:=hoW.below dm.fair hb3;have hw3:=aa hwW hb3 hwW.size;have hpw3:=hbP3.lt;clear hb3 hbP hbR hoW hwW p0 p1 p2 p3 pf2 pf3 r0 r1 rf0 rf1 ho2 hw2;obtain⟨p,hp⟩:=exE (⟨(key:Int) / 4,(key:Int) % 4,0,s2.extract 0 n⟩:Part);rw[←hp] at HS3 ⊢;have hcs:bD p=_:=congrArg bD hp;replace hbP3:Box w3 w1.heap.size 178 (bD p):=by rw[hp];first | exact hbP3 | (rw[hk4] at hbP3;exact hbP3)
       clear hcs hp;have q0:LL w3 w1.heap.size 0 (O p.id):=hbP3.cell 0;have q1:LL w3 w1.heap.size 1 (O p.kind):=hbP3.cell 1;have q2:LL w3 w1.heap.size 2 (O p.n):=hbP3.cell 2;have q3:LL w3 w1.heap.size 3 (.string p.s):=hbP3.cell 3
       by_cases hgp:iW p=true
       ·have hst4:=HS3.out;rw[if_pos hgp] at hst4;have hlt4:=wU hst4;have he4:=Cg (acc:=acc) hrne hst4;rw[he.out] at he4;have He4:=hidL he4;clear hst4 he4;simp only[iY] at hlt4;go_wp2_with (first | (at_builtin;refine bv _ rfl (.tmp 79) (.tmp 81) rfl tJ dm.fair rfl rfl (ho3.alloc dm.fair _) (Src.one (es:=bD p) (y:=p) rfl (gI.bK rfl) rfl (ik.new _ _ _)) (NoT.lt _) ?_ ?_ ?_))
        ·simp;omega
        ·have:=hw3.size;simp;omega
        intro v4 w4 ho4 hg4 hv4;have hbR4:=(hbR3.alloc (.cells (bD p).toArray 178)).grown hg4 hvg;have c4:=hbR4.cell 0;go_wp2;go_roundw
        case rel =>
         refine⟨s2.extract n s2.size,acc++[p],ho4,hbR4,?_,He4.out.symm,(by rw[show (acc++[p]).length=acc.length+1 from by simp];omega),?_,below_grown (hw3.alloc hw3.size _) hg4 (by have:=hw3.size;simp;omega) (fun k hk=>(ho3.lt hk).1)⟩
         ·rcases hv4 with h | h
          ·rw[h];exact hvg
          ·rw[h];simp;have:=hbR3.lt;omega
         ·intro x hx;rcases List.mem_append.1 hx with h | h
          ·exact hps x h
          ·simp at h;subst h;simp[iW] at hgp;omega
        case measure=>rw[wT c4,wT Hc0.out];exact hlt4
       ·simp only[Bool.not_eq_true] at hgp;have hst4:=HS3.out;rw[if_neg (by simp[hgp])] at hst4;have he4:=Az (acc:=acc) hrne hst4;rw[he.out] at he4;have He4:=hidL he4;clear hst4 he4;go_wp2_with fail
        go_ret2
        rw[He4.out];exact⟨_,rfl,RSl.dJ,hw3,by simp,by simp⟩
      ·have hnone:ul (bytes rs)=none:=by
        rw[Hst2.out,if_neg hk4,if_neg (show ¬ n≤(bytes s2).length from hnl)]
       have hB:=Bad.out hnone (w2.setCell ⟨w.heap.size,1,none⟩ (.bool true)) (hw2.setCell (p:=⟨w.heap.size,1,none⟩) (Nat.le_refl _) _);have HB:=hidL hB;clear hB hnone;have hnl':¬ (n:Int)≤s2.size:=by omega
       go_wp2_with fail
       go_ret2
       exact HB.out
end Go.Proofs.YtknnhpkjgnkcdaaGreatDoor
