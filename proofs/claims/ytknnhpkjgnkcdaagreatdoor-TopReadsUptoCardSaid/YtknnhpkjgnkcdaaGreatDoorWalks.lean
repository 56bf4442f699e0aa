/- Walks and plain laws. -/
import Derived.Test.YtknnhpkjgnkcdaaGreatDoorProg
import Derived.Test.YtknnhpkjgnkcdaaGreatDoorBase
set_option linter.all false
set_option maxRecDepth 100000
set_option maxHeartbeats 8000000
namespace Go.Proofs.YtknnhpkjgnkcdaaGreatDoor
open Go.Proofs.Tryz
open Go.RowKit
def JH (S:Nat→Prop)(w:World)(r:Option ax)(e:Ending)(w':World):Prop :=
 ∃ cs,e=.returned (.tuple #[.agg cs.toArray,.bool r.isSome])∧ah S w cs (r.getD .zero)∧Below w.heap.size w w'
theorem Xm {W:World}{a:Act}{g:Nat}{n:ByteArray}{en fd:Bool}{v1 v2 v3:Value}(hb:Box W g 53 [.string n,.bool en,v1,v2,v3])(h4:a.tmps.getD 4 undef=.pointer (some ⟨g,0,none⟩))(h5:a.tmps.getD 5 undef=.bool fd) :
  (results f36 a.tmps).run prog W=.ok (.tuple #[.agg #[.string n,.bool en,v1,v2,v3],.bool fd]) W:=by
 have c0:=hb.c 0 rfl;have c1:=hb.c 1 rfl;have c2:=hb.c 2 rfl;have c3:=hb.c 3 rfl;have c4:=hb.c 4 rfl;simp only[Array.getD_eq_getD_getElem?] at h4 h5;simp[results,results36,go_sem,h4,h5,c0,c1,c2,c3,c4]
theorem aar {S:Nat→Prop}{w W:World}{a:Act}{g:Nat}{r:Option ax}{fd:Bool}{n:ByteArray}{en:Bool}{v1 v2 v3:Value}(hr:ah S w [.string n,.bool en,v1,v2,v3] (r.getD .zero))(hfd:r.isSome=fd)
  (hb:Box W g 53 [.string n,.bool en,v1,v2,v3]) (hw:Below w.heap.size w W) (h4:a.tmps.getD 4 undef=.pointer (some ⟨g,0,none⟩)) (h5:a.tmps.getD 5 undef=.bool fd) (hd:a.defers=[]) :
  bodyPost prog f36 (JH S w r) .ret a W :=
 bodyPost_ret (Xm hb h4 h5) hd ⟨_,by rw[hfd],hr,hw⟩
theorem gH (S:Nat→Prop)(vb:Value)(b:av)(name:ByteArray)(w:World)(hb:RSl 5 96 ah S w [vb] b) :
  Calls prog 36 #[.agg #[vb],.string name] w (JH S w (aM b name)):=by
 obtain⟨A,cap,rfl,hlc,hlb⟩:=hb.form;have HB:=hidL hb;clear hb;go_enter func36,ntmps36;go_wp2_with fail;go_loopw [11] (fun i wr=>∃ k:Nat,i=O k∧k≤b.length∧Box wr (w.heap.size+1) 53 [E0,.bool false,Z0,Z0,Z0] ∧
   Hid (aM (b.drop k) name=aM b name)∧Below w.heap.size w wr) (fun i _=>b.length-(intOf i).toNat)
 case atStart =>
  refine⟨0,rfl,by omega,?_,rfl,((Below.refl _ _).alloc (Nat.le_refl _) _).alloc (by simp) _⟩;have:=Box.new (w.alloc (.cells #[.slice A b.length cap] 38)) 53 [E0,.bool false,Z0,Z0,Z0];simpa using this
 case round =>
  obtain⟨k,rfl,hk,hbx,he,hb⟩:=hrel
  by_cases hlt:k<b.length
  ·obtain⟨g,o,es,rfl,hS,hg,hes,hr,hc0⟩:=HB.out.at_ hlt;have hc:=hc0.keep (az.of_below hb) hS;have hgw:g<wr.heap.size:=Nat.lt_of_lt_of_le hg hb.size;have hd:b.drop k=b[k]::b.drop (k+1):=List.drop_eq_getElem_cons hlt;obtain⟨t,hte⟩:=exE (b[k]);rw[←hte] at hr hd;rw[hd] at he;obtain⟨A1,k1,A2,k2,A3,k3,rfl,-,-,-⟩:=hr.parts;have q0:=hc.a0 rfl;have q1:=hc.at_ 1 rfl;have q2:=hc.at_ 2 rfl;have q3:=hc.at_ 3 rfl;have q4:=hc.at_ 4 rfl;have HR:=hidL hr;clear hr hc hc0 hd hte hes;have hbn:=hbx.alloc (.cells (TT t A1 k1 A2 k2 A3 k3).toArray 53)
   by_cases hn:t.name=name
   ·subst hn;have hft:aM b t.name=some t:=by rw[←he.out];simp[aM]
    have Hft:=hidL hft;clear hft;have f0:=hbn.frozen 0;have f1:=hbn.frozen 1;have f2:=hbn.frozen 2;have f3:=hbn.frozen 3;have f4:=hbn.frozen 4;have c0:=hbn.c 0 rfl;have c1:=hbn.c 1 rfl;have c2:=hbn.c 2 rfl;have c3:=hbn.c 3 rfl;have c4:=hbn.c 4 rfl;go_wp2_with fail;change bodyPost _ _ _ _ _ (setCells (wr.alloc (.cells (TT t A1 k1 A2 k2 A3 k3).toArray 53)) (w.heap.size+1) 0 (TT t A1 k1 A2 k2 A3 k3));have hb5:=hbn.setCells (TT t A1 k1 A2 k2 A3 k3) rfl;have hw5:=below_setCells (g:=w.heap.size+1) (Nat.le_succ _) (TT t A1 k1 A2 k2 A3 k3) 0 _ (hb.alloc hb.size (.cells (TT t A1 k1 A2 k2 A3 k3).toArray 53));generalize setCells _ (w.heap.size+1) 0 _=W at hb5 hw5 ⊢;clear hbn hbx f0 f1 f2 f3 f4 c0 c1 c2 c3 c4 hb;rw[Hft.out];exact aar HR.out rfl hb5 hw5 rfl rfl rfl
   ·have hne:(t.name.toList==name.toList)=false:=by rw[ba_eq];simpa using hn
    go_wp2;go_roundw
    case rel =>
     refine⟨k+1,by go_num,by omega,hbn,?_,hb.alloc hb.size _⟩;show _=_;rw[←he.out];simp[aM,hn]
    case measure=>simp[intOf];omega
  ·have hd:b.drop k=[]:=List.drop_eq_nil_of_le (by omega);rw[hd] at he;have f0:=hbx.frozen 0;have f1:=hbx.frozen 1;have f2:=hbx.frozen 2;have f3:=hbx.frozen 3;have f4:=hbx.frozen 4;have c0:=hbx.c 0 rfl;have c1:=hbx.c 1 rfl;have c2:=hbx.c 2 rfl;have c3:=hbx.c 3 rfl;have c4:=hbx.c 4 rfl;have Hft:=hidL he.out.symm;clear he hd;go_wp2_with fail;change bodyPost _ _ _ _ _ (setCells wr (w.heap.size+1) 0 [E0,.bool false,Z0,Z0,Z0]);have hb5:=hbx.setCells [E0,.bool false,Z0,Z0,Z0] rfl;have hw5:=below_setCells (g:=w.heap.size+1) (Nat.le_succ _) [E0,.bool false,Z0,Z0,Z0] 0 _ hb;generalize setCells _ (w.heap.size+1) 0 _=W at hb5 hw5 ⊢;rw[Hft.out];exact aar (r:=none) ah.zero rfl hb5 hw5 rfl rfl rfl
def ut (w:World)(r:Option ay)(e:Ending)(w':World):Prop :=
 e=.returned (.tuple #[.agg (aI (r.getD .zero)).toArray,.bool r.isSome])∧Below w.heap.size w w'
theorem Oe {W:World}{a:Act}{g:Nat}{f:ay}{fd:Bool}(hb:Box W g 55 (aI f))(h4:a.tmps.getD 4 undef=.pointer (some ⟨g,0,none⟩))(h5:a.tmps.getD 5 undef=.bool fd) :
  (results f107 a.tmps).run prog W=.ok (.tuple #[.agg (aI f).toArray,.bool fd]) W:=by
 have c0:=hb.cell 0;have c1:=hb.cell 1;have c2:=hb.cell 2;have c3:=hb.cell 3;have c4:=hb.cell 4;simp only[aI,List.getElem?_cons_zero,List.getElem?_cons_succ] at c0 c1 c2 c3 c4;simp only[Array.getD_eq_getD_getElem?] at h4 h5;simp[results,results107,go_sem,h4,h5,c0,c1,c2,c3,c4,aI]
theorem Ml {w W:World}{a:Act}{g:Nat}{r:Option ay}{fd:Bool}(hfd:r.isSome=fd)
  (hb:Box W g 55 (aI (r.getD .zero))) (hw:Below w.heap.size w W) (h4:a.tmps.getD 4 undef=.pointer (some ⟨g,0,none⟩)) (h5:a.tmps.getD 5 undef=.bool fd) (hd:a.defers=[]) :
  bodyPost prog f107 (ut w r) .ret a W :=
 bodyPost_ret (Oe hb h4 h5) hd ⟨by rw[hfd],hw⟩
theorem qD (S:Nat→Prop)(cs:List Value)(t:ax)(id:Int)(w:World)(ht:ah S w cs t) :
  Calls prog 107 #[.agg cs.toArray,O id] w (ut w (aC t id)):=by
 obtain⟨A1,k1,A2,k2,A3,k3,rfl,hf,-,-⟩:=ht.parts;obtain⟨A',cap',h',hlc,hlb⟩:=hf.form;have HB:=hidL hf;clear hf h' ht;go_enter func107,ntmps107;go_wp2_with fail;go_loopw [11] (fun i wr=>∃ k:Nat,i=O k∧k≤t.fields.length∧Box wr (w.heap.size+1) 55 [O 0,E0,E0,O 0,O 0] ∧
   Hid ((t.fields.drop k).find? (fun f=>decide (f.id=id))=aC t id)∧Below w.heap.size w wr) (fun i _=>t.fields.length-(intOf i).toNat)
 case atStart =>
  refine⟨0,rfl,by omega,?_,rfl,((Below.refl _ _).alloc (Nat.le_refl _) _).alloc (by simp) _⟩;have:=Box.new (w.alloc (.cells (TT t A1 k1 A2 k2 A3 k3).toArray 53)) 55 [O 0,E0,E0,O 0,O 0];simpa using this
 case round =>
  obtain⟨k,rfl,hk,hbx,he,hb⟩:=hrel
  by_cases hlt:k<t.fields.length
  ·obtain⟨g,o,es,rfl,hS,hg,hes,hr,hc0⟩:=HB.out.at_ hlt;have hc:=hc0.keep (az.of_below hb) hS;have hgw:g<wr.heap.size:=Nat.lt_of_lt_of_le hg hb.size;have hd:t.fields.drop k=t.fields[k]::t.fields.drop (k+1):=List.drop_eq_getElem_cons hlt;obtain⟨f,hte⟩:=exE (t.fields[k]);rw[←hte] at hr hd;rw[hd] at he;have hr':es=aI f:=hr;subst hr';have q0:=hc.a0 rfl;have q1:=hc.at_ 1 rfl;have q2:=hc.at_ 2 rfl;have q3:=hc.at_ 3 rfl;have q4:=hc.at_ 4 rfl;clear hr hc hc0 hd hte hes;have hbn:=hbx.alloc (.cells (FF f.id f.name f.type f.kind f.rule).toArray 55)
   by_cases hn:f.id=id
   ·subst hn;have hft:aC t f.id=some f:=by rw[←he.out];simp
    have Hft:=hidL hft;clear hft;have f0:=hbn.frozen 0;have f1:=hbn.frozen 1;have f2:=hbn.frozen 2;have f3:=hbn.frozen 3;have f4:=hbn.frozen 4;have c0:=hbn.c 0 rfl;have c1:=hbn.c 1 rfl;have c2:=hbn.c 2 rfl;have c3:=hbn.c 3 rfl;have c4:=hbn.c 4 rfl;go_wp2_with fail;change bodyPost _ _ _ _ _ (setCells (wr.alloc (.cells (FF f.id f.name f.type f.kind f.rule).toArray 55)) (w.heap.size+1) 0 (FF f.id f.name f.type f.kind f.rule));have hb5:=hbn.setCells (FF f.id f.name f.type f.kind f.rule) rfl;have hw5:=below_setCells (g:=w.heap.size+1) (Nat.le_succ _) (FF f.id f.name f.type f.kind f.rule) 0 _ (hb.alloc hb.size (.cells (FF f.id f.name f.type f.kind f.rule).toArray 55));generalize setCells _ (w.heap.size+1) 0 _=W at hb5 hw5 ⊢;rw[Hft.out];exact Ml (r:=some f) rfl hb5 hw5 rfl rfl rfl
   ·go_wp2;go_roundw
    case rel =>
     refine⟨k+1,by go_num,by omega,hbn,?_,hb.alloc hb.size _⟩;show _=_;rw[←he.out];simp[hn]
    case measure=>simp[intOf];omega
  ·have hd:t.fields.drop k=[]:=List.drop_eq_nil_of_le (by omega);rw[hd] at he;have f0:=hbx.frozen 0;have f1:=hbx.frozen 1;have f2:=hbx.frozen 2;have f3:=hbx.frozen 3;have f4:=hbx.frozen 4;have c0:=hbx.c 0 rfl;have c1:=hbx.c 1 rfl;have c2:=hbx.c 2 rfl;have c3:=hbx.c 3 rfl;have c4:=hbx.c 4 rfl;have Hft:=hidL he.out.symm;clear he hd;go_wp2_with fail;change bodyPost _ _ _ _ _ (setCells wr (w.heap.size+1) 0 [O 0,E0,E0,O 0,O 0]);have hb5:=hbx.setCells [O 0,E0,E0,O 0,O 0] rfl;have hw5:=below_setCells (g:=w.heap.size+1) (Nat.le_succ _) [O 0,E0,E0,O 0,O 0] 0 _ hb;generalize setCells _ (w.heap.size+1) 0 _=W at hb5 hw5 ⊢;rw[Hft.out];exact Ml (r:=none) rfl hb5 hw5 rfl rfl rfl
def Pur (w:World)(v:Value)(e:Ending)(w':World):Prop:=e=.returned v∧w'=w
theorem Pur.ret {w:World}{v:Value}{e:Ending}{w':World}(h:Pur w v e w'):Ret w v e w':=⟨h.1,h.2 ▸ Below.refl _ _⟩
theorem RSl.drewN {α:Type}{sz by_:Nat}{R:Rel α}(hR:Fair R){S:Nat→Prop}{w:World}{cs:List Value}{x:List α}(h:RSl sz by_ R S w cs x)(n:Nat):RSl sz by_ R S (w.drewN n) cs x:=(RSl.fair hR).keep h (az.drewN S w n)
theorem IC (S:Nat→Prop)(v:Value)(l:List ByteArray)(x:ByteArray)(w:World)(hl:RSl 1 16 lQ S w [v] l) :
  Calls prog 65 #[v,.string x] w (Pur w (O (De l x))):=by
 obtain⟨A,cap,rfl,hlc,hlb⟩:=hl.form;have HL:=hidL hl;clear hl;go_enter func65,ntmps65;go_wp2_with fail
 go_loop [8] (fun i=>∃ k:Nat,i=O k∧k≤l.length∧Hid (∀ j (hj:j<l.length),j<k→l[j]≠x)) (fun i=>l.length-(intOf i).toNat)
 case atStart=>exact⟨0,rfl,by omega,(fun j _ hj=>absurd hj (by omega):∀ j (hj:j<l.length),j<0→l[j]≠x)⟩
 case round =>
  obtain⟨k,rfl,hk,hn⟩:=hrel
  by_cases hlt:k<l.length
  ·obtain⟨g,o,es,rfl,hS,hg,hes,hr,hc⟩:=HL.out.at_ hlt;obtain⟨y,hye⟩:=exE (l[k]);rw[←hye] at hr;have hr':es=[.string y]:=hr;subst hr';have q0:=hc.a0 rfl;rw[Nat.mul_one] at q0;have Hye:=hidL hye;clear hr hc hye hes
   by_cases he:x=y
   ·subst he;have hi:=ajh hlt Hye.out.symm (fun j hj=>hn.out j (by omega) hj);have Hi:=hidL hi;clear hi;go_wp2;go_ret;exact⟨iB Hi.out.symm,rfl⟩
   ·have hne:(x.toList==y.toList)=false:=by rw[ba_eq];simpa using he
    go_wp2_with fail
    go_round
    case rel =>
     refine⟨k+1,by go_num,by omega,?_⟩;show ∀ j (hj:j<l.length),j<k+1→l[j]≠x;intro j hj hjk
     by_cases hjk':j<k
     ·exact hn.out j hj hjk'
     ·have:j=k:=by omega
      subst this;rw[←Hye.out];exact fun h=>he h.symm
    case measure=>simp[intOf];omega
  ·have hi:=Vy (l:=l) (x:=x) (fun j hj=>hn.out j hj (by omega));have Hi:=hidL hi;clear hi;go_wp2;go_ret;exact⟨iB Hi.out.symm,rfl⟩
theorem Gn (S:Nat→Prop)(v:Value)(l:List ByteArray)(x:ByteArray)(w:World)(hl:RSl 1 16 lQ S w [v] l) :
  Calls prog 90 #[v,.string x] w (Pur w (.bool (mK l x))):=by
 have HL:=hidL hl;clear hl;go_enter func90,ntmps90;go_wp2_with fail;refine(IC S v l x _ HL.out).mono ?_;rintro e w1 ⟨rfl,rfl⟩;have Hi:=hidL (aiV l x);go_wp2;go_ret;exact⟨kr (by first | exact Hi.out | (rw[←Hi.out];simp)),rfl⟩
def Words (w:World):Prop:=∃ v,w.cell? ⟨2,0,none⟩=some v∧RSl 1 16 lQ (fun _=>True) w [v] rZ
theorem Words.below {w w':World}(h:Words w)(hb:Below w.heap.size w w'):Words w':=by
 obtain⟨v,hc,hr⟩:=h;refine⟨v,?_,(RSl.fair lQ.fair).below hr hb⟩;rw[World.cell?_of_block (w:=w) (hb.block _ (World.block_lt_of_cell? w _ hc))];exact hc
theorem Words.drewN {w:World}(h:Words w)(n:Nat):Words (w.drewN n):=h.below ⟨rfl,rfl,rfl,Nat.le_refl _,fun _ _=>rfl⟩
theorem Words.drew {w:World}(h:Words w):Words w.drew:=h.below ⟨rfl,rfl,rfl,Nat.le_refl _,fun _ _=>rfl⟩
theorem Bh (s:ByteArray)(w:World)(hs:s.size≤9223372036854775807)(hw:Words w) :
  Calls prog 49 #[.string s] w (Pur w (.bool (bJ s))):=by
 obtain⟨v,hv,hr⟩:=hw;have HR:=hidL hr;have hgl:=World.block_lt_of_cell? w _ hv;clear hr;go_enter func49,ntmps49;go_wp2_with fail
 go_loop [6] (fun i=>∃ k:Nat,i=O k∧k≤s.size∧Hid (((bytes s).take k).all (fun c=>decide (97≤c.toNat∧c.toNat≤122))=true)) (fun i=>s.size-(intOf i).toNat)
 case atStart=>exact⟨0,rfl,by omega,rfl⟩
 case round =>
  obtain⟨k,rfl,hk,hn⟩:=hrel
  by_cases hlt:k<s.size
  ·by_cases hc:97≤s[k].toNat∧s[k].toNat≤122
   ·obtain⟨hc1,hc2⟩:=hc;go_wp2_with fail
    go_round
    case rel =>
     refine⟨k+1,by go_num,by omega,?_⟩;show _=true;rw[List.take_succ_eq_append_getElem (show k<(bytes s).length from hlt),List.all_append,hn.out];simp only[List.all_cons,List.all_nil,Bool.true_and,Bool.and_true,decide_eq_true_eq];exact⟨hc1,hc2⟩
    case measure=>simp[intOf];omega
   ·have hf:bJ s=false:=by
     have:(bytes s).all (fun c=>decide (97≤c.toNat∧c.toNat≤122))=false:=by
      rw[List.all_eq_false];exact⟨(bytes s)[k]'hlt,List.getElem_mem _,fun h=>hc (of_decide_eq_true h)⟩
     rw[bJ,this];rfl
    have Hf:=hidL hf;clear hf
    by_cases hc1:s[k].toNat<97
    ·go_wp2;go_ret;exact⟨kr Hf.out.symm,rfl⟩
    ·have hc2:122<s[k].toNat:=by omega
     go_wp2;go_ret;exact⟨kr Hf.out.symm,rfl⟩
  ·have hks:k=s.size:=by omega
   have hall:(bytes s).all (fun c=>decide (97≤c.toNat∧c.toNat≤122))=true:=by
    have:=hn.out;rw[List.take_of_length_le (by rw[iY];omega)] at this;exact this
   have hf:bJ s=(decide (1≤s.size∧s.size≤12) && !mK rZ s):=by rw[bJ,hall];rfl
   have Hf:=hidL hf;clear hf hall
   by_cases h1:1≤s.size∧s.size≤12
   ·obtain⟨h1,h2⟩:=h1;have hb2:Hid (bJ s = !mK rZ s):=by show _=_;rw[Hf.out];simp[h1,h2]
    go_wp2_with fail;refine(Gn _ v rZ s _ HR.out).mono ?_;rintro e w1 ⟨rfl,rfl⟩;go_wp2;go_ret;exact⟨kr hb2.out.symm,rfl⟩
   ·have hb2:Hid (bJ s=false):=by show _=_;rw[Hf.out];simp only[decide_eq_false h1,Bool.false_and]
    by_cases h0:1≤s.size
    ·have h3:12<s.size:=by omega
     go_wp2;go_ret;exact⟨kr hb2.out.symm,rfl⟩
    ·have h3:s.size=0:=by omega
     go_wp2;go_ret;exact⟨kr hb2.out.symm,rfl⟩
theorem Du (s:ByteArray)(w:World)(n:Nat){r:Bool}(hr:bJ s=r)(hs:s.size≤9223372036854775807)(hw:Words w) :
  Calls prog 49 #[.string s] (w.drewN n) fun e w''=>e=.returned (.bool r)∧∃ m,w''=w.drewN m :=
 Calls.quiet_of_same (by subst hr;exact Bh s _ hs (hw.drewN n))
theorem Pp (n:Int)(w:World):Calls prog 108 #[O n] w (Pur w (.bool (decide (1≤n∧n≤30)))):=by
 go_enter func108,ntmps108
 go_wp2
 all_goals
  go_ret;refine⟨kr ?_,rfl⟩
  go_tidy
  simp at *;omega
theorem JE (x:Int)(w:World)(n:Nat){r:Bool}(hr:decide (1≤x∧x≤30)=r) :
  Calls prog 108 #[O x] (w.drewN n) fun e w''=>e=.returned (.bool r)∧∃ m,w''=w.drewN m :=
 Calls.quiet_of_same (by subst hr;exact Pp x _)
theorem Uq (S:Nat→Prop)(vb:Value)(b:av):∀ (left:Nat),left≤4→∀ (name:ByteArray) (w:World),RSl 5 96 ah S w [vb] b →
  Calls prog 109 #[.agg #[vb],.string name,O left] w (Ret w (O (aZ b left name))):=by
 intro left
 induction left with
 | zero =>
  intro _ name w hb;have HB:=hidL hb;obtain⟨A,cap,rfl,hlc,hlb⟩:=hb.form;clear hb;go_enter func109,ntmps109;go_wp2_with fail;have hbk:=(RSl.fair ah.fair).below HB.out ((Below.refl w.heap.size w).alloc (Nat.le_refl _) (.cells #[.slice A b.length cap] 38));refine(gH S _ b name _ hbk).mono ?_;rintro e w1 ⟨cs,rfl,hr,hb1⟩;obtain⟨A1,k1,A2,k2,A3,k3,rfl,-,-,-⟩:=hr.parts;have hbw:Below w.heap.size w w1:=aa ((Below.refl w.heap.size w).alloc (Nat.le_refl _) _) hb1 (by simp);clear hb1 hr hbk;generalize (aM b name).getD ax.zero=t at *
  by_cases hfd:(aM b name).isSome=true
  ·rw[hfd]
   by_cases hte:t.enum=true
   ·rw[hte];go_wp2;go_ret;exact⟨rfl,hbw.alloc hbw.size _⟩
   ·simp only[Bool.not_eq_true] at hte;rw[hte];go_wp2;go_ret;exact⟨rfl,hbw.alloc hbw.size _⟩
  ·simp only[Bool.not_eq_true] at hfd;rw[hfd];go_wp2;go_ret;exact⟨rfl,hbw.alloc hbw.size _⟩
 | succ left ih =>
  intro hleft name w hb;have IH:=hidL ih;have HB:=hidL hb;obtain⟨A,cap,rfl,hlc,hlb⟩:=hb.form;clear hb ih;go_enter func109,ntmps109;go_wp2_with fail;have hbk:=(RSl.fair ah.fair).below HB.out ((Below.refl w.heap.size w).alloc (Nat.le_refl _) (.cells #[.slice A b.length cap] 38));refine(gH S _ b name _ hbk).mono ?_;rintro e w1 ⟨cs,rfl,hr,hb1⟩;have hbw:Below w.heap.size w w1:=aa ((Below.refl w.heap.size w).alloc (Nat.le_refl _) _) hb1 (by simp);have hbox:Box w1 w.heap.size 38 [.slice A b.length cap]:=(Box.new w _ _).below hb1 (by simp);have hr1:=ah.fair.keep hr (az.of_below hb1);have hlt1:=hbox.lt;clear hb1 hr hbk;cases hfd:aM b name with
  | none =>
   have hl:aZ b (left+1) name=0:=by rw[aZ,hfd]
   have Hl:=hidL hl;clear hl;rw[hfd] at hr1;obtain⟨A1,k1,A2,k2,A3,k3,rfl,-,-,-⟩:=hr1.parts;simp only[Option.getD_none,Option.isSome_none,ax.zero];go_wp2;go_ret;exact⟨iB (by rw[Hl.out];rfl),hbw.alloc hbw.size _⟩
  | some t =>
   rw[hfd] at hr1;simp only[Option.getD_some,Option.isSome_some] at hr1 ⊢;obtain⟨A1,k1,A2,k2,A3,k3,rfl,hf,-,-⟩:=hr1.parts;have HF:=hidL hf;obtain⟨Af,kf,hff,hflc,hflb⟩:=hf.form;clear hr1 hf hff
   by_cases hte:t.enum=true
   ·have hl:aZ b (left+1) name=0:=by rw[aZ,hfd];simp[hte]
    have Hl:=hidL hl;clear hl;rw[hte];go_wp2;go_ret;exact⟨iB (by rw[Hl.out];rfl),hbw.alloc hbw.size _⟩
   ·simp only[Bool.not_eq_true] at hte
    by_cases h5:5<t.fields.length
    ·have hl:aZ b (left+1) name=0:=by rw[aZ,hfd];simp[h5]
     have Hl:=hidL hl;clear hl;rw[hte];go_wp2;go_ret;exact⟨iB (by rw[Hl.out];rfl),hbw.alloc hbw.size _⟩
    ·have hl:aZ b (left+1) name=dz (aZ b left) t.fields 1:=by rw[aZ,hfd];simp[hte,h5]
     have Hl:=hidL hl;clear hl;have hl0:((left:Int)+1==0)=false:=by rw[beq_eq_false_iff_ne];omega
     have h5':¬ 5<(t.fields.length:Int):=by omega
     have h5l:t.fields.length≤5:=by omega
     rw[hte];go_wp2_with fail;go_loopw [9,38] (fun v i wr=>∃ (k n:Nat),i=O k∧k≤t.fields.length∧v=O n∧n≤1+k*216∧Hid (dz (aZ b left) (t.fields.drop k) n=dz (aZ b left) t.fields 1) ∧
       Box wr w.heap.size 38 [.slice A b.length cap]∧Below w1.heap.size w1 wr) (fun _ i _=>t.fields.length-(intOf i).toNat)
     case atStart=>exact⟨0,1,rfl,by omega,rfl,by omega,rfl,hbox.alloc _,(Below.refl _ _).alloc (Nat.le_refl _) _⟩
     case round =>
      obtain⟨k,n,rfl,hk,rfl,hn,he,hbx,hb⟩:=hrel;have hbw2:Below w.heap.size w wr:=aa hbw hb hbw.size
      by_cases hlt:k<t.fields.length
      ·obtain⟨g,o,es,rfl,hS,hg,hes,hr,hc0⟩:=HF.out.at_ hlt;have hc:=hc0.keep (az.of_below hb) hS;have hgw:g<wr.heap.size:=Nat.lt_of_lt_of_le hg hb.size;have hd:t.fields.drop k=t.fields[k]::t.fields.drop (k+1):=List.drop_eq_getElem_cons hlt;obtain⟨f,hfe⟩:=exE (t.fields[k]);rw[←hfe] at hr hd;rw[hd,dz] at he;have hr':es=aI f:=hr;subst hr';have q0:=hc.a0 rfl;have q1:=hc.at_ 1 rfl;have q2:=hc.at_ 2 rfl;have q3:=hc.at_ 3 rfl;have q4:=hc.at_ 4 rfl;have b0:LL wr w.heap.size 0 (.slice A b.length cap):=hbx.cell 0;have hltw:w.heap.size<wr.heap.size:=hbx.lt;have hbnew:=hbx.alloc (.cells (aI f).toArray 55);have hbk:=(RSl.fair ah.fair).below HB.out (hbw2.alloc hbw2.size (.cells (aI f).toArray 55));have hbn1:=hb.alloc hb.size (.cells (aI f).toArray 55);have Hbk:=hidL hbk;clear hr hc hc0 hd hfe hes hbk
       by_cases h1:f.rule=1
       ·rw[if_pos h1] at he;obtain⟨fid,fname,ftype,fkind,frule⟩:=f;dsimp only at h1 he q0 q1 q2 q3 q4;subst h1
        by_cases hk5:fkind=5
        ·rw[if_pos hk5] at he;subst hk5;have hm:=BU b (left:=left) (by omega) ftype;go_wp2_with fail;refine(IH.out (by omega) ftype _ Hbk.out).mono ?_;rintro e w3 ⟨rfl,hb3⟩;have hbx3:=hbnew.below hb3 hbnew.lt;have hbn3:=aa hbn1 hb3 hbn1.size;generalize aZ b left ftype=m at *
         by_cases hm0:m=0
         ·subst hm0;rw[if_pos rfl] at he;go_wp2;go_ret;exact⟨iB (by rw[Hl.out,←he.out];rfl),aa hbw hbn3 hbw.size⟩
         ·rw[if_neg hm0] at he;have hm0':¬ (m:Int)=0:=by omega
          go_wp2;go_roundw
          case rel=>exact⟨k+1,n+m,by go_num,by omega,by go_num,by omega,he,hbx3,hbn3⟩
          case measure=>simp[intOf];omega
        ·rw[if_neg hk5] at he;go_wp2;go_roundw
         case rel=>exact⟨k+1,n+1,by go_num,by omega,by go_num,by omega,he,hbnew,hbn1⟩
         case measure=>simp[intOf];omega
       ·rw[if_neg h1] at he;go_wp2;go_roundw
        case rel=>exact⟨k+1,n,by go_num,by omega,rfl,by omega,he,hbnew,hbn1⟩
        case measure=>simp[intOf];omega
      ·have hd:t.fields.drop k=[]:=List.drop_eq_nil_of_le (by omega);rw[hd,dz] at he;go_wp2;go_ret;exact⟨iB (by rw[Hl.out,←he.out]),hbw2⟩
theorem qL (S:Nat→Prop)(vb:Value)(b:av)(name:ByteArray)(w:World)(hb:RSl 5 96 ah S w [vb] b) :
  Calls prog 75 #[.agg #[vb],.string name] w (Ret w (O (aZ b 4 name))):=by
 obtain⟨A,cap,rfl,_,_⟩:=hb.form;have hbk:=(RSl.fair ah.fair).below hb ((Below.refl w.heap.size w).alloc (Nat.le_refl _) (.cells #[.slice A b.length cap] 38));have Hbk:=hidL hbk;clear hb hbk;go_enter func75,ntmps75;go_wp2_with fail;refine(Uq S _ b 4 (by omega) name _ Hbk.out).mono ?_;rintro e w1 ⟨rfl,hb1⟩;have hbw:Below w.heap.size w w1:=aa ((Below.refl w.heap.size w).alloc (Nat.le_refl _) _) hb1 (by simp);go_wp2;go_ret;exact⟨rfl,hbw⟩
theorem Jm (x:ByteArray)(xn n:Int)(q:Nat)(w:World)(hq:LL w q 0 (O n)) :
  Calls prog 199 #[.agg #[.string x,O xn],.pointer (some ⟨q,0,none⟩)] w (Ret w (.bool (decide (xn=n)))):=by
 have hqlt:q<w.heap.size:=World.block_lt_of_cell? w _ hq;go_enter func199,ntmps199;go_wp2_with fail
 all_goals
  go_ret;refine⟨kr ?_,(Below.refl _ _).alloc (Nat.le_refl _) _⟩
  first | rfl | simp | (simp;omega)
def abe (b:Bool)(w:World)(e:Ending)(w':World):Prop:=∃ i:Int,e=.returned (O i)∧Hid (decide (0≤i)=b)∧Below w.heap.size w w'
theorem XG (S:Nat→Prop)(v:Value)(l:List dC)(n:Int)(q:Nat)(w:World)(hl:RSl 2 24 aO S w [v] l)(hq:w.cell? ⟨q,0,none⟩=some (O n)) :
  Calls prog 215 #[v,.func (.func 199) #[] #[.pointer (some ⟨q,0,none⟩)]] w (abe (l.any fun x=>decide (x.n=n)) w):=by
 obtain⟨A,cap,rfl,hlc,hlb⟩:=hl.form;have HL:=hidL hl;have hqw:=World.block_lt_of_cell? w _ hq;clear hl;go_enter func215,ntmps215;go_wp2_with fail;go_loopw [8] (fun i wr=>∃ k:Nat,i=O k∧k≤l.length∧Hid ((l.drop k).any (fun x=>decide (x.n=n))=l.any (fun x=>decide (x.n=n)))∧Below w.heap.size w wr) (fun i _=>l.length-(intOf i).toNat)
 case atStart=>exact⟨0,rfl,by omega,rfl,Below.refl _ _⟩
 case round =>
  obtain⟨k,rfl,hk,he,hb⟩:=hrel
  by_cases hlt:k<l.length
  ·obtain⟨g,o,es,rfl,hS,hg,hes,hr,hc0⟩:=HL.out.at_ hlt;have hc:=hc0.keep (az.of_below hb) hS;have hd:l.drop k=l[k]::l.drop (k+1):=List.drop_eq_getElem_cons hlt;obtain⟨x,hye⟩:=exE (l[k]);rw[←hye] at hr hd;rw[hd,List.any_cons] at he;have hr':es=dD x:=hr;subst hr';obtain⟨xname,xn⟩:=x;have q0:=hc.a0 rfl;have q1:=hc.at_ 1 rfl;have hqr:wr.cell? ⟨q,0,none⟩=some (O n):=by rw[World.cell?_of_block (w:=w) (hb.block _ hqw)];exact hq
   clear hr hc hc0 hye hes hd;have hqlt:q<wr.heap.size:=Nat.lt_of_lt_of_le hqw hb.size;dsimp only at he
   by_cases hn:xn=n
   ·subst hn;simp only[decide_true,Bool.true_or] at he;have He:=hidL he.out;clear he;go_wp2_with fail;refine(Jm _ _ _ q _ hqr).mono ?_;rintro e w1 ⟨rfl,hb1⟩;simp only[decide_true];go_wp2;go_ret;exact⟨_,rfl,by show _=_;rw[←He.out];simp,aa hb hb1 hb.size⟩
   ·simp only[hn,decide_false,Bool.false_or] at he;go_wp2_with fail;refine(Jm _ _ _ q _ hqr).mono ?_;rintro e w1 ⟨rfl,hb1⟩;simp only[hn,decide_false];go_wp2;go_roundw
    case rel=>exact⟨k+1,by go_num,by omega,he,aa hb hb1 hb.size⟩
    case measure=>simp[intOf];omega
  ·have hd:l.drop k=[]:=List.drop_eq_nil_of_le (by omega);rw[hd,List.any_nil] at he;go_wp2;go_ret;exact⟨_,rfl,he,hb⟩
theorem WP (S:Nat→Prop)(v:Value)(l:List dC)(n:Int)(q:Nat)(w:World)(hl:RSl 2 24 aO S w [v] l)(hq:LL w q 0 (O n)) :
  Calls prog 198 #[v,.func (.func 199) #[] #[.pointer (some ⟨q,0,none⟩)]] w (Ret w (.bool (l.any fun x=>decide (x.n=n)))):=by
 have HL:=hidL hl;have HQ:=hidL hq;clear hl hq;go_enter func198,ntmps198;go_wp2_with fail;refine(XG S v l n q _ HL.out HQ.out).mono ?_;rintro e w1 ⟨i,rfl,hi,hb1⟩;go_wp2;go_ret;exact⟨kr (by first | exact hi.out | (rw[←hi.out];simp)),hb1⟩
theorem KF (S:Nat→Prop)(cs:List Value)(t:ax)(n:Int)(w:World)(ht:ah S w cs t) :
  Calls prog 162 #[.agg cs.toArray,O n] w (Ret w (.bool (jT t n))):=by
 obtain⟨A1,k1,A2,k2,A3,k3,rfl,-,-,hi⟩:=ht.parts;have HI:=hidL hi;clear ht hi;go_enter func162,ntmps162;go_wp2_with fail;have hw2:Below w.heap.size w ((w.alloc (.cells (TT t A1 k1 A2 k2 A3 k3).toArray 53)).alloc (.cells #[O n] 3)):=((Below.refl _ _).alloc (Nat.le_refl _) _).alloc (by simp) _;have hbx:Box ((w.alloc (.cells (TT t A1 k1 A2 k2 A3 k3).toArray 53)).alloc (.cells #[O n] 3)) (w.heap.size+1) 3 [O n]:=by
  have:=Box.new (w.alloc (.cells (TT t A1 k1 A2 k2 A3 k3).toArray 53)) 3 [O n];simpa using this
 refine(WP S _ t.items n (w.heap.size+1) _ ((RSl.fair aO.fair).below HI.out hw2) (hbx.cell 0)).mono ?_;rintro e w1 ⟨rfl,hb1⟩;have hbw:=aa hw2 hb1 hw2.size;clear hw2 hbx hb1;go_wp2;go_ret;exact⟨rfl,hbw⟩
end Go.Proofs.YtknnhpkjgnkcdaaGreatDoor
