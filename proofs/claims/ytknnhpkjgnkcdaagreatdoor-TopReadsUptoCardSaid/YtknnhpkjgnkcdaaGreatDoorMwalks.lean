/- Walks and plain laws. -/
import Derived.Test.YtknnhpkjgnkcdaaGreatDoorBookGood
import Derived.Test.YtknnhpkjgnkcdaaGreatDoorLaws
import Derived.Test.YtknnhpkjgnkcdaaGreatDoorRefShelf
import Derived.Lib.RowBridge
import Derived.Test.YtknnhpkjgnkcdaaGreatDoorLates
set_option linter.all false
set_option maxRecDepth 100000
set_option maxHeartbeats 8000000
namespace Go.Proofs.YtknnhpkjgnkcdaaGreatDoor
section
open Go.Proofs.Tryz
open Go.RowKit
def jr (s:iP):List Value:=[.bool s.there,.bool s.enum,O s.field.id,.string s.field.name,.string s.field.type,O s.field.kind,O s.field.rule,.string s.item]
theorem aaA:prog.eqGuardType prog.depth 198=false:=by kernel_rfl
theorem Xb:prog.underlying 198=some (.struct (prog.fieldsOf 198)):=by kernel_rfl
theorem aee:prog.stoodInHeld 198=false:=by kernel_rfl
theorem sK:prog.eqGuardType prog.depth 55=false:=by kernel_rfl
theorem oI:prog.underlying 55=some (.struct (prog.fieldsOf 55)):=by kernel_rfl
theorem rR:prog.stoodInHeld 55=false:=by kernel_rfl
theorem toList_inj {a b:ByteArray}:(a.toList=b.toList)↔a=b:=by
 rw[ByteArray.toList_eq,ByteArray.toList_eq];obtain⟨⟨l⟩⟩:=a;obtain⟨⟨l'⟩⟩:=b;simp
theorem zx (p q:iP)(W:World):(binOp .eql 198 (.agg (jr p).toArray) (.agg (jr q).toArray)).run prog W=.ok (.bool (decide (p=q))) W:=by
 obtain⟨a,b,⟨c,d,e,f,g⟩,i⟩:=p;obtain⟨a',b',⟨c',d',e',f',g'⟩,i'⟩:=q;have h:=run_equalIn_agg (P:=prog) W 9999 198 #[.bool a,.bool b,O c,.string d,.string e,O f,O g,.string i] #[.bool a',.bool b',O c',.string d',.string e',O f',O g',.string i'] Xb aee;have h2:=run_equalIn_agg (P:=prog) W 9998 55 (FF c d e f g).toArray (FF c' d' e' f' g').toArray oI rR;unfold jr;rw[run_eql_struct,h];simp[go_sem,h2,toList_inj]
 by_cases h1:a=a' <;> by_cases h2:b=b' <;> by_cases h3:c=c' <;> by_cases h4:d=d' <;> by_cases h5:e=e' <;> by_cases h6:f=f' <;> by_cases h7:g=g' <;> by_cases h8:i=i' <;> simp[h1,h2,h3,h4,h5,h6,h7,h8]
theorem Box.eight {w:World}{g:Nat}{t:TypeId}{a b c d e f h i:Value}(hb:Box w g t [a,b,c,d,e,f,h,i]) :
  LL w g 0 a∧LL w g 1 b∧LL w g 2 c∧LL w g 3 d∧LL w g 4 e∧LL w g 5 f∧LL w g 6 h∧LL w g 7 i :=
 ⟨hb.cell 0,hb.cell 1,hb.cell 2,hb.cell 3,hb.cell 4,hb.cell 5,hb.cell 6,hb.cell 7⟩
theorem Box.rr8 {w:World}{g:Nat}{t:TypeId}{a b c d e f h i:Value}(hb:Box w g t [a,b,c,d,e,f,h,i]) :
  LL w g 0 a∧LL w g 1 b∧LL w g 2 c∧LL w g 3 d∧LL w g 4 e∧LL w g 5 f∧LL w g 6 h∧LL w g 7 i∧w.frozen? ⟨g,0,none⟩=false∧w.frozen? ⟨g,1,none⟩=false∧w.frozen? ⟨g,2,none⟩=false∧w.frozen? ⟨g,3,none⟩=false∧w.frozen? ⟨g,4,none⟩=false∧w.frozen? ⟨g,5,none⟩=false∧w.frozen? ⟨g,6,none⟩=false∧w.frozen? ⟨g,7,none⟩=false∧g<w.heap.size :=
 ⟨hb.cell 0,hb.cell 1,hb.cell 2,hb.cell 3,hb.cell 4,hb.cell 5,hb.cell 6,hb.cell 7,hb.frozen 0,hb.frozen 1,hb.frozen 2,hb.frozen 3,hb.frozen 4,hb.frozen 5,hb.frozen 6,hb.frozen 7,hb.lt⟩
def Ar (w:World)(r:iP × Bool)(e:Ending)(w':World):Prop:=e=.returned (.tuple #[.agg (jr r.1).toArray,.bool r.2])∧Below w.heap.size w w'
def Xu (w:World)(r:iP)(e:Ending)(w':World):Prop:=e=.returned (.agg (jr r).toArray)∧Below w.heap.size w w'
theorem zy {W:World}{a:Act}{g:Nat}{c0 c1 c2 c3 c4 c5 c6 c7:Value}{n:Bool}(hb:Box W g 198 [c0,c1,c2,c3,c4,c5,c6,c7])(h4:a.tmps.getD 6 undef=.pointer (some ⟨g,0,none⟩))(h5:a.tmps.getD 7 undef=.bool n) :
  (results f128 a.tmps).run prog W=.ok (.tuple #[.agg #[c0,c1,c2,c3,c4,c5,c6,c7],.bool n]) W:=by
 obtain⟨e0,e1,e2,e3,e4,e5,e6,e7⟩:=hb.eight;simp only[Array.getD_eq_getD_getElem?] at h4 h5;simp[results,results128,go_sem,h4,h5,e0,e1,e2,e3,e4,e5,e6,e7]
theorem Fp (was a b:iP)(w:World):Calls prog 128 #[.agg (jr was).toArray,.agg (jr a).toArray,.agg (jr b).toArray] w (Ar w (iM was a b)):=by
 have h1:=fun W=>zx a b W
 have h2:=fun W=>zx b was W
 have h3:=fun W=>zx a was W
 have hf:iM was a b=if decide (a=b)=true∨decide (b=was)=true then (a,true) else if decide (a=was)=true then (b,true) else (was,false):=by
  unfold iM;simp only[decide_eq_true_eq]
 obtain⟨e1,he1⟩:=exE (decide (a=b));obtain⟨e2,he2⟩:=exE (decide (b=was));obtain⟨e3,he3⟩:=exE (decide (a=was));rw[←he1] at h1 hf;rw[←he2] at h2 hf;rw[←he3] at h3 hf;clear he1 he2 he3;have hgd:=aaA;obtain⟨r,hr⟩:=exE (iM was a b);rw[←hr] at hf ⊢;have Hr:=hidL hf;clear hr hf;obtain⟨at_,ae,⟨a1,a2,a3,a4,a5⟩,ai⟩:=a;obtain⟨bt,be,⟨b1,b2,b3,b4,b5⟩,bi⟩:=b;obtain⟨wt,we,⟨x1,x2,x3,x4,x5⟩,wi⟩:=was;simp only[jr] at h1 h2 h3 ⊢;have ZA:=hidL (rQ w (jr ⟨wt,we,⟨x1,x2,x3,x4,x5⟩,wi⟩) (jr ⟨at_,ae,⟨a1,a2,a3,a4,a5⟩,ai⟩) (jr ⟨bt,be,⟨b1,b2,b3,b4,b5⟩,bi⟩) (jr ⟨at_,ae,⟨a1,a2,a3,a4,a5⟩,ai⟩) 198 198 198 198);have ZB:=hidL (rQ w (jr ⟨wt,we,⟨x1,x2,x3,x4,x5⟩,wi⟩) (jr ⟨at_,ae,⟨a1,a2,a3,a4,a5⟩,ai⟩) (jr ⟨bt,be,⟨b1,b2,b3,b4,b5⟩,bi⟩) (jr ⟨bt,be,⟨b1,b2,b3,b4,b5⟩,bi⟩) 198 198 198 198);have ZW:=hidL (rQ w (jr ⟨wt,we,⟨x1,x2,x3,x4,x5⟩,wi⟩) (jr ⟨at_,ae,⟨a1,a2,a3,a4,a5⟩,ai⟩) (jr ⟨bt,be,⟨b1,b2,b3,b4,b5⟩,bi⟩) (jr ⟨wt,we,⟨x1,x2,x3,x4,x5⟩,wi⟩) 198 198 198 198);go_enter func128,ntmps128;cases e1 <;> cases e2 <;> cases e3
 all_goals
  simp only[Bool.false_eq_true,or_self,or_true,true_or,if_true,if_false] at Hr;go_wp2_with fail;rw[Hr.out]
  first
   | exact bodyPost_ret (zy ZA.out.2.2.2.1 rfl rfl) rfl ⟨rfl,ZA.out.2.2.2.2⟩
   | exact bodyPost_ret (zy ZB.out.2.2.2.1 rfl rfl) rfl ⟨rfl,ZB.out.2.2.2.2⟩
   | exact bodyPost_ret (zy ZW.out.2.2.2.1 rfl rfl) rfl ⟨rfl,ZW.out.2.2.2.2⟩
theorem Xq {W:World}{a:Act}{g:Nat}{c0 c1 c2 c3 c4 c5 c6 c7:Value}(hb:Box W g 198 [c0,c1,c2,c3,c4,c5,c6,c7])(h4:a.tmps.getD 4 undef=.pointer (some ⟨g,0,none⟩)) :
  (results f129 a.tmps).run prog W=.ok (.agg #[c0,c1,c2,c3,c4,c5,c6,c7]) W:=by
 obtain⟨e0,e1,e2,e3,e4,e5,e6,e7⟩:=hb.eight;simp only[Array.getD_eq_getD_getElem?] at h4;simp[results,results129,go_sem,h4,e0,e1,e2,e3,e4,e5,e6,e7]
theorem TI {W:World}{a:Act}{g:Nat}{c0 c1 c2 c3 c4 c5 c6 c7:Value}(hb:Box W g 198 [c0,c1,c2,c3,c4,c5,c6,c7])(h4:a.tmps.getD 4 undef=.pointer (some ⟨g,0,none⟩)) :
  (results f166 a.tmps).run prog W=.ok (.agg #[c0,c1,c2,c3,c4,c5,c6,c7]) W:=by
 obtain⟨e0,e1,e2,e3,e4,e5,e6,e7⟩:=hb.eight;simp only[Array.getD_eq_getD_getElem?] at h4;simp[results,results166,go_sem,h4,e0,e1,e2,e3,e4,e5,e6,e7]
theorem LA (S:Nat→Prop)(vb:Value)(b:av)(name:ByteArray)(w:World)(hb0:RSl 5 96 ah S w [vb] b):Calls prog 129 #[.agg #[vb],.string name] w (Xu w (nT b name)):=by
 obtain⟨A,cap,rfl,hlc,hlb⟩:=hb0.form;have HB:=hidL hb0;obtain⟨x1,x2,x3⟩:=bY w [.slice A b.length cap] [.bool false,.bool false,O 0,E0,E0,O 0,O 0,E0] 38 198;clear hb0;go_enter func129,ntmps129;go_wp2_with fail;refine(gH S _ b name _ ((RSl.fair ah.fair).below HB.out x3)).mono ?_;rintro e w1 ⟨cs3,rfl,hr3,hb1⟩;obtain⟨B1,l1,B2,l2,B3,l3,rfl,-,-,-⟩:=hr3.parts;have hw1:=aa x3 hb1 x3.size;have y2:=x2.below hb1 x2.lt;obtain⟨ty,hty⟩:=exE ((aM b name).getD ax.zero);obtain⟨ok,hok⟩:=exE ((aM b name).isSome);have Hr:=hidL (show nT b name=⟨ok,ty.enum,.zero,⟨#[]⟩⟩ by rw[hok,hty];rfl);rw[←hty,←hok];obtain⟨r0,r1,r2,r3,r4,r5,r6,r7,g0,g1,g2,g3,g4,g5,g6,g7,hlr⟩:=(y2).rr8;clear hty hok hr3 hb1 x1 x2 x3;go_wp2_with fail;change bodyPost _ _ _ _ _ ((setCells w1 (w.heap.size+1) 0 [.bool ok,.bool ty.enum,O 0,E0,E0,O 0,O 0,E0]).alloc (.cells (TT ty B1 l1 B2 l2 B3 l3).toArray 53));have hb5:=(y2.setCells [.bool ok,.bool ty.enum,O 0,E0,E0,O 0,O 0,E0] rfl).alloc (.cells (TT ty B1 l1 B2 l2 B3 l3).toArray 53);have hw5:=below_setCells (g:=w.heap.size+1) (by go_light;omega) [.bool ok,.bool ty.enum,O 0,E0,E0,O 0,O 0,E0] 0 _ hw1;have hw6:=hw5.alloc hw5.size (.cells (TT ty B1 l1 B2 l2 B3 l3).toArray 53);clear hw5 r0 r1 r2 r3 r4 r5 r6 r7 g0 g1 g2 g3 g4 g5 g6 g7;generalize (setCells w1 (w.heap.size+1) 0 _).alloc _=W5 at hb5 hw6 ⊢;rw[Hr.out];exact bodyPost_ret (Xq hb5 rfl) rfl ⟨rfl,hw6⟩
theorem KX (S:Nat→Prop)(cs:List Value)(t:ax)(id:Int)(w:World)(ht:ah S w cs t):Calls prog 166 #[.agg cs.toArray,O id] w (Xu w (bI t id)):=by
 obtain⟨B1,l1,B2,l2,B3,l3,rfl,-,-,-⟩:=ht.parts;have HT:=hidL ht;obtain⟨x1,x2,x3⟩:=bY w (TT t B1 l1 B2 l2 B3 l3) [.bool false,.bool false,O 0,E0,E0,O 0,O 0,E0] 53 198;obtain⟨c0,c1,c2,c3,c4⟩:=x1.five;have hl1:=x1.lt;clear ht;go_enter func166,ntmps166;go_wp2_with fail;refine(qD S _ t id _ (ah.fair.below HT.out x3)).mono ?_;rintro e w1 ⟨rfl,hb1⟩;have hw1:=aa x3 hb1 x3.size;have y2:=x2.below hb1 x2.lt;obtain⟨f,hty⟩:=exE ((aC t id).getD ay.zero);obtain⟨ok,hok⟩:=exE ((aC t id).isSome);have Hr:=hidL (show bI t id=⟨ok,false,f,⟨#[]⟩⟩ by rw[hok,hty];rfl);rw[←hty,←hok];unfold aI;obtain⟨r0,r1,r2,r3,r4,r5,r6,r7,g0,g1,g2,g3,g4,g5,g6,g7,hlr⟩:=(y2).rr8;clear hty hok hb1 x1 x2 x3 c0 c1 c2 c3 c4 hl1;go_wp2_with fail;change bodyPost _ _ _ _ _ ((setCells w1 (w.heap.size+1) 0 [.bool ok,.bool false,O f.id,.string f.name,.string f.type,O f.kind,O f.rule,E0]).alloc (.cells (FF f.id f.name f.type f.kind f.rule).toArray 55));have hb5:=(y2.setCells [.bool ok,.bool false,O f.id,.string f.name,.string f.type,O f.kind,O f.rule,E0] rfl).alloc (.cells (FF f.id f.name f.type f.kind f.rule).toArray 55);have hw5:=below_setCells (g:=w.heap.size+1) (by go_light;omega) [.bool ok,.bool false,O f.id,.string f.name,.string f.type,O f.kind,O f.rule,E0] 0 _ hw1;have hw6:=hw5.alloc hw5.size (.cells (FF f.id f.name f.type f.kind f.rule).toArray 55);clear hw5 r0 r1 r2 r3 r4 r5 r6 r7 g0 g1 g2 g3 g4 g5 g6 g7;generalize (setCells w1 (w.heap.size+1) 0 _).alloc _=W5 at hb5 hw6 ⊢;rw[Hr.out];exact bodyPost_ret (TI hb5 rfl) rfl ⟨rfl,hw6⟩
theorem XU {W:World}{a:Act}{g:Nat}{c0 c1 c2 c3 c4 c5 c6 c7:Value}(hb:Box W g 198 [c0,c1,c2,c3,c4,c5,c6,c7])(h4:a.tmps.getD 4 undef=.pointer (some ⟨g,0,none⟩)) :
  (results f167 a.tmps).run prog W=.ok (.agg #[c0,c1,c2,c3,c4,c5,c6,c7]) W:=by
 obtain⟨e0,e1,e2,e3,e4,e5,e6,e7⟩:=hb.eight;simp only[Array.getD_eq_getD_getElem?] at h4;simp[results,results167,go_sem,h4,e0,e1,e2,e3,e4,e5,e6,e7]
theorem JG {W:World}{a:Act}{g:Nat}{c0 c1 c2 c3 c4 c5 c6 c7:Value}(hb:Box W g 198 [c0,c1,c2,c3,c4,c5,c6,c7])(h4:a.tmps.getD 4 undef=.pointer (some ⟨g,0,none⟩)) :
  (results f169 a.tmps).run prog W=.ok (.agg #[c0,c1,c2,c3,c4,c5,c6,c7]) W:=by
 obtain⟨e0,e1,e2,e3,e4,e5,e6,e7⟩:=hb.eight;simp only[Array.getD_eq_getD_getElem?] at h4;simp[results,results169,go_sem,h4,e0,e1,e2,e3,e4,e5,e6,e7]
def akK (b:Bool)(w:World)(e:Ending)(w':World):Prop:=∃ i:Int,e=.returned (O i)∧Hid (decide (0≤i)=b)∧w'=w
theorem adG (S:Nat→Prop)(v:Value)(l:List Int)(x:Int)(w:World)(hl:RSl 1 8 aQ S w [v] l) :
  Calls prog 94 #[v,O x] w (akK (dV l x) w):=by
 obtain⟨A,cap,rfl,hlc,hlb⟩:=hl.form;have HL:=hidL hl;clear hl;go_enter func94,ntmps94;go_wp2_with fail
 go_loop [8] (fun i=>∃ k:Nat,i=O k∧k≤l.length∧Hid (dV (l.drop k) x=dV l x)) (fun i=>l.length-(intOf i).toNat)
 case atStart=>exact⟨0,rfl,by omega,(show _=_ by rw[List.drop_zero])⟩
 case round =>
  obtain⟨k,rfl,hk,hn⟩:=hrel
  by_cases hlt:k<l.length
  ·obtain⟨g,o,es,rfl,hS,hg,hes,hr,hc⟩:=HL.out.at_ hlt;have hd:l.drop k=l[k]::l.drop (k+1):=List.drop_eq_getElem_cons hlt;obtain⟨y,hye⟩:=exE (l[k]);rw[←hye] at hr hd;have hr':es=[O y]:=hr;subst hr';have q0:LL w g (o+k) (O y):=by have:=hc.at_ 0 rfl;simpa using this
   have hh:dV l x=(decide (y=x)||dV (l.drop (k+1)) x):=by rw[←hn.out,hd];rfl
   by_cases he:x=y
   ·subst he;have Hi:=hidL (show dV l x=true by rw[hh];simp);clear hr hc hye hes hh hd hn;go_wp2;go_ret;refine⟨_,rfl,?_,rfl⟩;show _=_;rw[Hi.out];simp
   ·have hne:(x==y)=false:=by simpa using he
    have Hi:=hidL (show dV (l.drop (k+1)) x=dV l x by rw[hh,decide_eq_false (fun h=>he h.symm)];rfl);clear hr hc hye hes hh hd hn;go_wp2_with fail
    go_round
    case rel=>exact⟨k+1,by go_num,by omega,Hi⟩
    case measure=>simp[intOf];omega
  ·have Hi:=hidL (show dV l x=false by rw[←hn.out,List.drop_eq_nil_of_le (by omega)];rfl);clear hn;go_wp2;go_ret;refine⟨_,rfl,?_,rfl⟩;show _=_;rw[Hi.out];rfl
theorem zU (S:Nat→Prop)(v:Value)(l:List Int)(x:Int)(w:World)(hl:RSl 1 8 aQ S w [v] l) :
  Calls prog 56 #[v,O x] w (Pur w (.bool (dV l x))):=by
 have HL:=hidL hl;clear hl;go_enter func56,ntmps56;go_wp2_with fail;refine(adG S v l x _ HL.out).mono ?_;rintro e w1 ⟨i,rfl,Hi,rfl⟩;go_wp2;go_ret;exact⟨kr (by first | exact Hi.out | (rw[←Hi.out];simp)),rfl⟩
theorem Qp (S:Nat→Prop)(cs:List Value)(t:ax)(id:Int)(w:World)(ht:ah S w cs t):Calls prog 167 #[.agg cs.toArray,O id] w (Xu w (oC t id)):=by
 obtain⟨B1,l1,B2,l2,B3,l3,rfl,-,hG,-⟩:=ht.parts;obtain⟨x1,x2,x3⟩:=bY w (TT t B1 l1 B2 l2 B3 l3) [.bool false,.bool false,O 0,E0,E0,O 0,O 0,E0] 53 198;have hG2:=(RSl.fair aQ.fair).below hG x3;have HC:=hidL (zU S _ t.gone id _ hG2);obtain⟨c0,c1,c2,c3,c4⟩:=x1.five;have hl1:=x1.lt;obtain⟨ok,hok⟩:=exE (dV t.gone id);have Hr:=hidL (show oC t id=⟨ok,false,.zero,⟨#[]⟩⟩ by rw[hok];rfl);rw[←hok] at HC;clear ht hG hG2 hok;go_enter func167,ntmps167;obtain⟨r0,r1,r2,r3,r4,r5,r6,r7,g0,g1,g2,g3,g4,g5,g6,g7,hlr⟩:=(x2).rr8;go_wp2_with fail;refine HC.out.mono ?_;rintro e w1 ⟨rfl,rfl⟩;clear HC;have hb5:=x2.setCells [.bool ok,.bool false,O 0,E0,E0,O 0,O 0,E0] rfl;have hw5:=below_setCells (g:=w.heap.size+1) (by go_light;omega) [.bool ok,.bool false,O 0,E0,E0,O 0,O 0,E0] 0 _ x3;clear c0 c1 c2 c3 c4 x1;generalize (w.alloc _).alloc _=W at *;go_wp2_with fail;change bodyPost _ _ _ _ _ (setCells W (w.heap.size+1) 0 [.bool ok,.bool false,O 0,E0,E0,O 0,O 0,E0]);clear r0 r1 r2 r3 r4 r5 r6 r7 g0 g1 g2 g3 g4 g5 g6 g7;generalize setCells W (w.heap.size+1) 0 _=W5 at hb5 hw5 ⊢;rw[Hr.out];exact bodyPost_ret (XU hb5 rfl) rfl ⟨rfl,hw5⟩
theorem Sn (S:Nat→Prop)(cs:List Value)(t:ax)(n:Int)(w:World)(ht:ah S w cs t):Calls prog 169 #[.agg cs.toArray,O n] w (Xu w (mh t n)):=by
 obtain⟨B1,l1,B2,l2,B3,l3,rfl,-,-,hI⟩:=ht.parts;obtain⟨A',cap',h',hlc,hlb⟩:=hI.form;obtain⟨x1,x2,x3⟩:=bY w (TT t B1 l1 B2 l2 B3 l3) [.bool false,.bool false,O 0,E0,E0,O 0,O 0,E0] 53 198;have HI:=hidL hI;obtain⟨c0,c1,c2,c3,c4⟩:=x1.five;have hl1:=x1.lt;clear ht hI h';go_enter func169,ntmps169;go_wp2_with fail;go_loopw [10] (fun i wr=>∃ k:Nat,i=O k∧k≤t.items.length∧Hid ((t.items.drop k).find? (fun x=>decide (x.n=n))=oQ t n)∧Box wr (w.heap.size+1) 198 [.bool false,.bool false,O 0,E0,E0,O 0,O 0,E0]∧Below w.heap.size w wr) (fun i _=>t.items.length-(intOf i).toNat)
 case atStart=>exact⟨0,rfl,by omega,(show _=_ by rw[List.drop_zero];rfl),x2,x3⟩
 case round =>
  obtain⟨k,rfl,hk,he,hbx,hb⟩:=hrel;clear x1 x2 x3 c0 c1 c2 c3 c4 hl1
  by_cases hlt:k<t.items.length
  ·obtain⟨g,o,rfl,hS,hg⟩:=HI.out.base (by omega);have hc:=(HI.out.flat (enc:=dD) hlt).keep (az.of_below hb) hS;have hgw:g<wr.heap.size:=Nat.lt_of_lt_of_le hg hb.size;have hd:t.items.drop k=t.items[k]::t.items.drop (k+1):=List.drop_eq_getElem_cons hlt;obtain⟨x,hxe⟩:=exE (t.items[k]);rw[←hxe] at hc hd;rw[hd] at he;obtain⟨xname,xn⟩:=x;have q0:=hc.a0 rfl;have q1:=hc.at_ 1 rfl;clear hc hd hxe;have hwa:=hb.alloc hb.size (.cells #[.string xname,O xn] 57)
   by_cases hn:xn=n
   ·subst hn;have Hr:=hidL (show mh t xn=⟨true,false,.zero,xname⟩ by unfold mh;rw[←he.out];simp);have hb5:=(hbx.setCells [.bool true,.bool false,O 0,E0,E0,O 0,O 0,.string xname] rfl).alloc (.cells #[.string xname,O xn] 57);have hw5:=below_setCells (g:=w.heap.size+1) (by go_light;omega) [.bool true,.bool false,O 0,E0,E0,O 0,O 0,.string xname] 0 _ hb;have hw6:=hw5.alloc hw5.size (.cells #[.string xname,O xn] 57);obtain⟨r0,r1,r2,r3,r4,r5,r6,r7,g0,g1,g2,g3,g4,g5,g6,g7,hlr⟩:=(hbx).rr8;clear he hw5 hwa;go_wp2_with fail;change bodyPost _ _ _ _ _ ((setCells wr (w.heap.size+1) 0 [.bool true,.bool false,O 0,E0,E0,O 0,O 0,.string xname]).alloc (.cells #[.string xname,O xn] 57));clear r0 r1 r2 r3 r4 r5 r6 r7 g0 g1 g2 g3 g4 g5 g6 g7;generalize (setCells wr (w.heap.size+1) 0 _).alloc _=W5 at hb5 hw6 ⊢;rw[Hr.out];exact bodyPost_ret (JG hb5 rfl) rfl ⟨rfl,hw6⟩
   ·have hne:(xn==n)=false:=by simpa using hn
    have He:=hidL (show (t.items.drop (k+1)).find? (fun x=>decide (x.n=n))=oQ t n by rw[←he.out,List.find?_cons];simp[hn]);have hbn:=hbx.alloc (.cells #[.string xname,O xn] 57);clear he hbx;go_wp2;go_roundw
    case rel=>exact⟨k+1,by go_num,by omega,He,hbn,hwa⟩
    case measure=>simp[intOf];omega
  ·have Hr:=hidL (show mh t n=noS by unfold mh;rw[←he.out,List.drop_eq_nil_of_le (by omega)];rfl);have hb5:=hbx.setCells [.bool false,.bool false,O 0,E0,E0,O 0,O 0,E0] rfl;have hw5:=below_setCells (g:=w.heap.size+1) (by go_light;omega) [.bool false,.bool false,O 0,E0,E0,O 0,O 0,E0] 0 _ hb;obtain⟨r0,r1,r2,r3,r4,r5,r6,r7,g0,g1,g2,g3,g4,g5,g6,g7,hlr⟩:=(hbx).rr8;clear he;go_wp2_with fail;change bodyPost _ _ _ _ _ (setCells wr (w.heap.size+1) 0 [.bool false,.bool false,O 0,E0,E0,O 0,O 0,E0]);clear r0 r1 r2 r3 r4 r5 r6 r7 g0 g1 g2 g3 g4 g5 g6 g7;generalize setCells wr (w.heap.size+1) 0 _=W5 at hb5 hw5 ⊢;rw[Hr.out];exact bodyPost_ret (JG hb5 rfl) rfl ⟨rfl,hw5⟩
open Go.Sort
section
variable {α β:Type}[Inhabited β]{base e:Nat}{R:Rel α}{w:World}{xs:List α}
theorem Own.holds {enc:β→Value}{g cap n:Nat}{ys:List β}(h:Own base e 1 R NoT w (.slice (some ⟨g,0,none⟩) n cap) xs)(hl:ys.length=xs.length)
  (hv:∀ (k:Nat) (x:α) (y:β) (cs:List Value),xs[k]? = some x→ys[k]? = some y→R NoT w cs x→cs=[enc y]):Holds enc w g 0 ys.toArray:=by
 obtain⟨css,h1,h2,h3,h4⟩:=h;have hfr:∀ i,w.frozen? ⟨g,i,none⟩=false:=by
  intro i;rcases h1.2 with ⟨h0,_⟩ | ⟨g',cap',cur,h0,_,hh,_⟩
  ·cases h0
  ·simp only[Value.slice.injEq,Option.some.injEq,Addr.mk.injEq] at h0;obtain⟨⟨rfl,_,_⟩,_,_⟩:=h0;simp[World.frozen?,hh]
 intro j hj;have hj':j<ys.length:=by simpa using hj
 refine⟨?_,hfr _⟩;have hx:xs[j]? = some (xs[j]'(by omega)):=List.getElem?_eq_getElem (by omega);have hy:ys[j]? = some ys[j]:=List.getElem?_eq_getElem hj';have hc:css[j]? = some (css[j]'(by omega)):=List.getElem?_eq_getElem (by omega);obtain⟨hl1,hr⟩:=h4 j _ _ hx hc;have hcs:=hv j _ _ _ hx hy hr;have hall:∀ x∈css,x.length=1:=by
  intro c hc;obtain⟨i,hi,rfl⟩:=List.getElem_of_mem hc;exact(h4 i (xs[i]'(by omega)) _ (List.getElem?_eq_getElem (by omega)) (List.getElem?_eq_getElem hi)).1
 have hfl:=oD css 1 j 0 _ hall hc (by omega);rw[hcs] at hfl;have:=h1.cells (g:=g) rfl (j*1+0) (enc ys[j]) (by rw[hfl];rfl);have hadd:(⟨g,0,none⟩:Addr).add (j*1+0)=⟨g,0+j,none⟩:=by unfold Addr.add;split <;> simp_all
 rw[hadd] at this;rw[this]
 congr 2
 simp[getElem!_pos,hj']
end
theorem ik.newAt {w:World}{g:Nat}{cs:List Value}{e:TypeId}(h:g=w.heap.size):ik (w.alloc (.cells cs.toArray e)) g 0 cs:=h ▸ ik.new w cs e
theorem aaR {β:Type}[Inhabited β](enc:β→Value)(w:World)(g off:Nat)(d:Array β)(k:Nat)(h:k≠g):(putRow enc w g off d).heap[k]? = w.heap[k]? := by
 simp only[putRow,mapBlock,Array.getElem?_modify];rw[if_neg (fun e=>h e.symm)]
theorem size_putRow {β:Type}[Inhabited β](enc:β→Value)(w:World)(g off:Nat)(d:Array β):(putRow enc w g off d).heap.size=w.heap.size:=by simp[putRow,mapBlock]
theorem sF {β:Type}[Inhabited β](enc:β→Value)(w:World)(n g off:Nat)(d:Array β)(os:Array Obj):w.grownBy (grow (putRow enc (Sort.ahead w n) g off d) os) (some g) :=
 ⟨rfl,rfl,rfl,by
  have:=size_putRow enc (Sort.ahead w n) g off d;simp only[grow,Array.size_append];have e:(Sort.ahead w n).heap.size=w.heap.size:=rfl;omega,fun k hk hne=>by
  have hs:=size_putRow enc (Sort.ahead w n) g off d;have e:(Sort.ahead w n).heap.size=w.heap.size:=rfl;rw[heap_grow_old _ os (by omega),aaR enc _ g off d k (fun h=>hne (by rw[h]))];rfl⟩
theorem EY {β:Type}[Inhabited β]{enc:β→Value}{w:World}{g n:Nat}{ys zs:List β}{os:Array Obj}(hH:Holds enc w g 0 ys.toArray)(hg:g<w.heap.size)(hl:zs.length=ys.length) :
  ∀ j (h:j<zs.length),(grow (putRow enc (Sort.ahead w n) g 0 zs.toArray) os).cell? ⟨g,j,none⟩=some (enc zs[j]):=by
 intro j h;have hs:=size_putRow enc (Sort.ahead w n) g 0 zs.toArray;have e:(Sort.ahead w n).heap.size=w.heap.size:=rfl;rw[cell?_grow _ _ _ (show g<_ by omega)];have:=cell?_putRow enc (Sort.ahead w n) g 0 ys.toArray zs.toArray (holds_ahead enc w n g 0 _ hH) (by simpa using hl) j (by simpa using h);rw[Nat.zero_add] at this;rw[this]
 congr 2
 simp[getElem!_pos,h]
theorem RSl.of_cells {α:Type}{by_:Nat}{R:Rel α}{S:Nat→Prop}{w:World}{g cap:Nat}{xs:List α}(hs:S g)(hg:g<w.heap.size)(hc:xs.length≤cap)(hb:xs.length*by_≤140737488351232)
  (h:∀ k x,xs[k]? = some x→∃ v,LL w g k v∧R S w [v] x):RSl 1 by_ R S w [.slice (some ⟨g,0,none⟩) xs.length cap] xs:=by
 refine⟨_,cap,rfl,hc,hb,fun k x hx=>?_⟩;obtain⟨v,h1,h2⟩:=h k x hx;refine⟨g,0,[v],rfl,hs,hg,rfl,h2,fun j hj=>?_⟩;have:j=0:=by simpa using hj
 subst this;simp only[Nat.zero_add,Nat.mul_one,Nat.add_zero];rw[h1];rfl
end
section
open Go.Proofs.Tryz
open Go.RowKit Go.Sort
theorem Fs {α:Type}{lt:α→α→Bool}(x:α):∀ l:List α,(oo lt x l).Perm (x::l)
 | []=>.refl _
 | y::l=>by
  unfold oo;split
  ·exact((Fs x l).cons y).trans (.swap x y l)
  ·exact .refl _
theorem Vn {α:Type}{lt:α→α→Bool}:∀ (l a:List α),(l.foldl (fun a x=>oo lt x a) a).Perm (l++a)
 | [],_=>.refl _
 | x::l,a=>(Vn l (oo lt x a)).trans (((Fs x a).append_left l).trans List.perm_middle)
theorem xU {α:Type}{lt:α→α→Bool}(l:List α):(bL lt l).Perm l:=by
 have:=Vn (lt:=lt) l [];rw[List.append_nil] at this;exact(List.reverse_perm _).trans this
theorem VW (x:Int):∀ l:List Int,l.Pairwise (fun a b=>b≤a)→(oo ltInt x l).Pairwise (fun a b=>b≤a)
 | [],_=>by unfold oo;exact List.pairwise_singleton _ _
 | y::l,h=>by
  obtain⟨h1,h2⟩:=List.pairwise_cons.1 h;unfold oo
  by_cases hl:x<y
  ·rw[if_pos (by unfold ltInt;exact decide_eq_true hl)];refine List.pairwise_cons.2 ⟨fun z hz=>?_,VW x l h2⟩;rcases List.mem_cons.1 ((Fs x l).mem_iff.1 hz) with rfl | hz
   ·omega
   ·exact h1 z hz
  ·rw[if_neg (by unfold ltInt;simpa using hl)];refine List.pairwise_cons.2 ⟨fun z hz=>?_,h⟩;rcases List.mem_cons.1 hz with rfl | hz
   ·omega
   ·have:=h1 z hz;omega
theorem VB:∀ (l a:List Int),a.Pairwise (fun a b=>b≤a)→(l.foldl (fun a x=>oo ltInt x a) a).Pairwise (fun a b=>b≤a)
 | [],_,h=>h
 | x::l,a,h=>VB l _ (VW x a h)
theorem ada (l:List Int):l.mergeSort (fun x y=>decide (x≤y))=bL ltInt l:=by
 refine List.Perm.eq_of_pairwise (le:=fun a b=>decide (a≤b)=true) (fun a b _ _ h1 h2=>by simp only[decide_eq_true_eq] at h1 h2;omega)
  (List.pairwise_mergeSort (fun a b c h1 h2=>by simp only[decide_eq_true_eq] at *;omega) (fun a b=>by simp only[Bool.or_eq_true,decide_eq_true_eq];omega) l) ?_ ((List.mergeSort_perm _ _).trans (xU l).symm)
 unfold bL;rw[List.pairwise_reverse];exact(VB l [] List.Pairwise.nil).imp (fun h=>decide_eq_true h)
theorem Kb (base:Nat)(v:Value)(l:List Int)(w:World)(ho:Own base 3 1 aQ NoT w v l)(hl:l.length≤1000000) :
  Calls prog 68 #[v] w fun e w'=>e=.returned (.tuple #[])∧w.grownBy w' v.ownBlock∧RSl 1 8 aQ (fun y=>v.ownBlock=some y) w' [v] (bL ltInt l):=by
 have hform:=ho;obtain⟨css,h1,_⟩:=hform;rcases h1.2 with ⟨rfl,hn⟩ | ⟨g,cap,cur,rfl,hg,hh,hnc,_⟩
 ·have:l=[]:=List.eq_nil_of_length_eq_zero hn;subst this;refine(Tryz.slices_Sort_int_none none 0 w).mono ?_;rintro e w' ⟨rfl,rfl⟩;exact⟨rfl,aK (Below.refl _ _) _,RSl.dJ⟩
 ·have hgl:g<w.heap.size:=(Array.getElem?_eq_some_iff.1 hh).1;have hH:Holds (Value.int .i64) w g 0 l.toArray:=Own.holds ho rfl (fun k x y cs hx hy hr=>by
   have hr':cs=[O x]:=hr;rw[hx] at hy;injection hy with hy
   rw[hr',←hy])
  have hcall:=Tryz.slices_Sort_int g 0 cap l w hH hgl (by omega);refine hcall.mono ?_;rintro e w' ⟨rfl,n,os,rfl⟩;have hgr:=sF (Value.int .i64) w n g 0 (l.mergeSort fun x y=>decide (x≤y)).toArray os;refine⟨rfl,hgr,?_⟩;rw[←ada];have hlen:(l.mergeSort fun x y=>decide (x≤y)).length=l.length:=List.length_mergeSort l;have hc:=EY (n:=n) (os:=os) hH hgl hlen;have:=RSl.of_cells (by_:=8) (R:=aQ) (S:=fun y=>(Value.slice (some ⟨g,0,none⟩) l.length cap).ownBlock=some y) (cap:=cap) (w:=grow (putRow (Value.int .i64) (Sort.ahead w n) g 0 (l.mergeSort fun x y=>decide (x≤y)).toArray) os) (g:=g) (xs:=l.mergeSort fun x y=>decide (x≤y)) rfl (Nat.lt_of_lt_of_le hgl hgr.size) (by omega) (by omega) (fun k x hx=>by
   obtain⟨hk,rfl⟩:=List.getElem?_eq_some_iff.1 hx;exact⟨_,hc k hk,rfl⟩)
  rw[hlen] at this;exact this
abbrev bR:Rel av:=RSl 5 96 ah
theorem bR.fair:Fair bR:=RSl.fair ah.fair
theorem akO:dK prog 81 9 1 16:=dK.mk (z:=.string .empty) underlying81 (by decide) (by decide) (by kernel_rfl) rfl
theorem qh:dK prog 42 3 1 8:=dK.mk (z:=O 0) underlying42 (by decide) (by decide) (by kernel_rfl) rfl
def aep {α:Type}(by_:Nat)(R:Rel α)(w:World)(l:List α)(e:Ending)(w':World):Prop:=∃ v,e=.returned v∧RSl 1 by_ R (New w) w' [v] l∧Below w.heap.size w w'
theorem VA (l:List ByteArray):(vE l).map bytes=(l.map bytes).mergeSort fun x y=>decide (x≤y):=by
 unfold vE;rw[List.map_map];simp[Function.comp_def,sU]
theorem Vk (l:List ByteArray):(vE l).length=l.length:=by simp[vE]
theorem Bb (l:List Int):(uj l).length=l.length:=by simp[uj]
theorem agU (base:Nat)(v:Value)(l:List ByteArray)(w:World)(ho:Own base 9 1 lQ NoT w v l)(hl:l.length≤4400000000000)(hb:base≤w.heap.size) :
  Calls prog 165 #[v] w fun e w'=>e=.returned (.tuple #[])∧RSl 1 16 lQ (fun g=>base≤g) w' [v] (vE l)∧Below base w w':=by
 have hform:=ho;obtain⟨css,h1,_⟩:=hform;rcases h1.2 with ⟨rfl,hn⟩ | ⟨g,cap,cur,rfl,hg,hh,hnc,_⟩
 ·have:l=[]:=List.eq_nil_of_length_eq_zero hn;subst this;refine(Tryz.slices_Sort_string_none none 0 w).mono ?_;rintro e w' ⟨rfl,rfl⟩;exact⟨rfl,(by rw[show vE []=[] from by simp[vE]];exact RSl.dJ),Below.refl _ _⟩
 ·have hgl:g<w.heap.size:=(Array.getElem?_eq_some_iff.1 hh).1;have hH:Holds encStr w g 0 (l.map bytes).toArray:=Own.holds ho (by simp) (fun k x y cs hx hy hr=>by
   have hr':cs=[.string x]:=hr;rw[List.getElem?_map,hx] at hy;have hy':bytes x=y:=by simpa using hy
   rw[hr',←hy'])
  have hcall:=Tryz.slices_Sort_string g 0 cap (l.map bytes) w hH hgl (by simp;omega);rw[List.length_map] at hcall;refine hcall.mono ?_;rintro e w' ⟨rfl,n,os,rfl⟩;have hgr:=sF encStr w n g 0 ((l.map bytes).mergeSort fun x y=>decide (x≤y)).toArray os;refine⟨rfl,?_,(Below.refl _ _).grown hgr hb (fun g' hg'=>by cases hg';exact hg)⟩;have hc:=EY (n:=n) (os:=os) hH hgl (zs:=(l.map bytes).mergeSort fun x y=>decide (x≤y)) (by simp);rw[←VA] at hc ⊢;have hlen:=Vk l;have:=RSl.of_cells (by_:=16) (R:=lQ) (S:=fun g=>base≤g) (w:=grow (putRow encStr (Sort.ahead w n) g 0 ((vE l).map bytes).toArray) os) (g:=g) (cap:=cap) (xs:=vE l) hg (by rw[←VA] at hgr;exact Nat.lt_of_lt_of_le hgl hgr.size) (by omega) (by omega) (fun k x hx=>by
   have hk:k<(vE l).length:=by
    rcases Nat.lt_or_ge k (vE l).length with h | h
    ·exact h
    ·rw[List.getElem?_eq_none h] at hx;cases hx
   refine⟨.string x,?_,rfl⟩;refine(hc k (by simpa using hk)).trans ?_;rw[List.getElem?_eq_getElem hk] at hx;injection hx with hx
   rw[List.getElem_map,hx])
  rw[hlen] at this;exact this
theorem afV {todo rest acc R:List ByteArray}{x:ByteArray}(ht:todo=x::rest)(he:todo.foldl vW acc=R):rest.foldl vW (vW acc x)=R:=by
 subst ht;exact he
theorem agV {acc:List ByteArray}{x:ByteArray}(h:true=mK acc x):vW acc x=acc:=by unfold vW;rw[←h];rfl
theorem abY {acc:List ByteArray}{x:ByteArray}(h:false=mK acc x):vW acc x=acc++[x]:=by unfold vW;rw[←h];rfl
theorem Me (S:Nat→Prop)(v:Value)(l:List av)(w:World)(hl:RSl 1 24 bR S w [v] l)(hlen:(l.flatMap fun b=>b.map (·.name)).length≤4400000000000) :
  Calls prog 127 #[v] w (aep 16 lQ w (jl l)):=by
 obtain⟨A,cap,rfl,hlc,hlb⟩:=hl.form;have HL:=hidL hl;obtain⟨R,hR⟩:=exE (Uk (l.flatMap fun b=>b.map (·.name)));have hNF:jl l=vE R:=by unfold jl;rw[hR]
 have hR0:(l.flatMap fun b=>b.map (·.name)).foldl vW []=R:=hR.symm;have HR0:=hidL hR0;have HLN:=hidL hlen;rw[hNF];clear hl hNF hR hR0 hlen;go_enter func127,ntmps127;go_wp2_with fail;go_loopw [3,10] (fun v i wr=>∃ (k:Nat) (acc todo:List ByteArray),i=O k∧k≤l.length∧Hid (todo=(l.drop k).flatMap fun b=>b.map (·.name))∧Hid (todo.foldl vW acc=R)∧Hid (acc.length+todo.length≤4400000000000) ∧
   Own w.heap.size 9 1 lQ NoT wr v acc∧Below w.heap.size w wr) (fun _ i _=>l.length-(intOf i).toNat)
 case atStart=>exact⟨0,[],_,rfl,by omega,(show _=_ by rw[List.drop_zero]),HR0,(show _≤_ by have:=HLN.out;simpa using this),Own.dJ _ _ _ _ _ _,Below.refl _ _⟩
 case round =>
  obtain⟨k,acc,todo,rfl,hk,ht,he,hn,ho,hb⟩:=hrel;obtain⟨Ao,co,rfl,hco⟩:=ho.form
  by_cases hlt:k<l.length
  ·obtain⟨g,o,es,rfl,hS,hg,hes,hr,hc0⟩:=HL.out.at_ hlt;have hc:=hc0.keep (az.of_below hb) hS;have hgw:g<wr.heap.size:=Nat.lt_of_lt_of_le hg hb.size;have hd:l.drop k=l[k]::l.drop (k+1):=List.drop_eq_getElem_cons hlt;obtain⟨b,hbe⟩:=exE (l[k]);rw[←hbe] at hr hd;have ht2:todo=(b.map (·.name))++(l.drop (k+1)).flatMap fun b=>b.map (·.name):=by rw[ht.out,hd];simp
   have Ht2:=hidL ht2;have hr':=hr;obtain⟨A2,c2,rfl,hbc,hbb,-⟩:=hr';have q0:LL wr g (o+k) (.slice A2 b.length c2):=by have:=hc.at_ 0 rfl;simpa using this
   have HB:=hidL hr;have hwa:=hb.alloc hb.size (.cells #[.slice A2 b.length c2] 38);have hoa:=ho.alloc lQ.fair (.cells #[.slice A2 b.length c2] 38);clear hr hc hc0 hd hbe hes ht2 ht;go_wp2_with fail;go_loopw [3,17] (fun v i wi=>∃ (j:Nat) (acc2 todo2:List ByteArray),i=O j∧j≤b.length∧Hid (todo2=((b.drop j).map (·.name))++(l.drop (k+1)).flatMap fun b=>b.map (·.name))∧Hid (todo2.foldl vW acc2=R)∧Hid (acc2.length+todo2.length≤4400000000000) ∧
     Own w.heap.size 9 1 lQ NoT wi v acc2∧Below w.heap.size w wi) (fun _ i _=>b.length-(intOf i).toNat)
   case atStart=>exact⟨0,acc,todo,rfl,by omega,(show _=_ by rw[List.drop_zero];exact Ht2.out),he,hn,hoa,hwa⟩
   case round =>
    obtain⟨j,acc2,todo2,rfl,hj,ht3,he3,hn3,ho3,hb3⟩:=hrel;clear ho hoa hwa hn he hco;obtain⟨Ao2,co2,rfl,hco2⟩:=ho3.form
    by_cases hjl:j<b.length
    ·obtain⟨g2,o2,es2,rfl,hS2,hg2,hes2,hr2,hc2⟩:=HB.out.at_ hjl;have hc3:=hc2.keep (az.of_below hb3) hS2;have hgw2:g2<wr.heap.size:=Nat.lt_of_lt_of_le hg2 hb3.size;have hd2:b.drop j=b[j]::b.drop (j+1):=List.drop_eq_getElem_cons hjl;obtain⟨t,hte⟩:=exE (b[j]);rw[←hte] at hr2 hd2;obtain⟨B1,l1,B2,l2,B3,l3,rfl,-,-,-⟩:=hr2.parts;have q0:=hc3.a0 rfl;have q1:=hc3.at_ 1 rfl;have q2:=hc3.at_ 2 rfl;have q3:=hc3.at_ 3 rfl;have q4:=hc3.at_ 4 rfl;have ht4:todo2=t.name::(((b.drop (j+1)).map (·.name))++(l.drop (k+1)).flatMap fun b=>b.map (·.name)):=by rw[ht3.out,hd2];simp
     have hst:=afV ht4 he3.out;have hn4:acc2.length+1+(((b.drop (j+1)).map (·.name))++(l.drop (k+1)).flatMap fun b=>b.map (·.name)).length≤4400000000000:=by
      have:=hn3.out;rw[ht4] at this;simp only[List.length_cons] at this;omega
     obtain⟨x,hx⟩:=exE t.name;rw[←hx] at q0 hst;obtain⟨rest,hrest⟩:=exE (((b.drop (j+1)).map (·.name))++(l.drop (k+1)).flatMap fun b=>b.map (·.name));rw[←hrest] at hn4;have hst2:rest.foldl vW (vW acc2 x)=R:=by rw[hrest];exact hst
     have Hrest:=hidL hrest;have Hst:=hidL hst2;have Hn4:=hidL hn4;clear hx hst hst2 hrest hn4 ht4 hn3 he3 ht3 hd2 hr2 hc2 hc3 hes2 hte;have hw5:=hb3.alloc hb3.size (.cells #[.string x,.bool t.enum,.slice B1 t.fields.length l1,.slice B2 t.gone.length l2,.slice B3 t.items.length l3] 53);have ho5:=ho3.alloc lQ.fair (.cells #[.string x,.bool t.enum,.slice B1 t.fields.length l1,.slice B2 t.gone.length l2,.slice B3 t.items.length l3] 53);have hrd:=ho5.read (S:=fun _=>True) (by_:=16) lQ.fair (fun _ h=>h.elim) (fun _ _=>trivial) (by have:=Hn4.out;omega);have hcall:=Gn _ _ acc2 x _ hrd;obtain⟨h,hh⟩:=exE (mK acc2 x);rw[←hh] at hcall;have Hcall:=hidL hcall;have Hh:=hidL hh;have zt:=Box.new wr 53 [.string x,.bool t.enum,.slice B1 t.fields.length l1,.slice B2 t.gone.length l2,.slice B3 t.items.length l3];clear hrd hcall hh ho3 hb3;go_wp2_with fail;refine Hcall.out.mono ?_;rintro e w2 ⟨rfl,rfl⟩;cases h
     ·have ea:=abY Hh.out;have Hst2:=hidL (show rest.foldl vW (acc2++[x])=R by rw[←ea];exact Hst.out);clear Hh Hst ea Hcall;go_wp2_with (at_builtin;go_must (refine bv _ rfl (.tmp 26) (.tmp 29) rfl akO lQ.fair rfl rfl (ho5.alloc lQ.fair _) (Src.one (es:=[.string x]) (y:=x) rfl (gI.bK rfl) rfl (ik.newAt (by first | rfl | simp[World.setCell]))) (NoT.lt _) ?_ ?_ ?_))
      ·have:=Hn4.out;go_light;simp only[List.length_cons,List.length_nil];omega
      ·have:=hw5.size;go_light;simp only[World.size_alloc] at *;omega
      ·intro v6 w6 ho6 hg6 hv6;have hw6:=below_grown (hw5.alloc hw5.size (.cells #[.string x] 9)) hg6 (hw5.alloc hw5.size (.cells #[.string x] 9)).size (fun g' h=>by have:=(ho5.lt h).1;go_light;omega);go_wp2;go_roundw
       case rel=>exact⟨j+1,acc2++[x],rest,by go_num,by omega,Hrest,Hst2,(show _≤_ by have:=Hn4.out;simp;omega),ho6,hw6⟩
       case measure=>simp[intOf];omega
     ·have ea:=agV Hh.out;have Hst2:=hidL (show rest.foldl vW acc2=R by rw[←ea];exact Hst.out);clear Hh Hst ea Hcall;go_wp2;go_roundw
      case rel=>exact⟨j+1,acc2,rest,by go_num,by omega,Hrest,Hst2,(show _≤_ by have:=Hn4.out;omega),ho5,hw5⟩
      case measure=>simp[intOf];omega
    ·have Ht5:=hidL (show todo2=(l.drop (k+1)).flatMap fun b=>b.map (·.name) by rw[ht3.out,List.drop_eq_nil_of_le (by omega)];rfl);clear ht3;go_wp2;go_roundw
     case rel=>exact⟨k+1,acc2,todo2,by go_num,by omega,Ht5,he3,hn3,ho3,hb3⟩
     case measure=>simp[intOf];omega
  ·have h0:todo=[]:=by rw[ht.out,List.drop_eq_nil_of_le (by omega)];rfl
   have hfin:acc=R:=by have:=he.out;rw[h0] at this;exact this
   have hnl:acc.length≤4400000000000:=by have:=hn.out;omega
   subst hfin;have hcall:=agU w.heap.size _ acc wr ho hnl hb.size;have Hcall:=hidL hcall;clear hcall ho hn he ht h0;go_wp2_with fail;refine Hcall.out.mono ?_;rintro e w2 ⟨rfl,hr2,hb2⟩;have Hr2:=hidL hr2;clear hr2;go_wp2;go_ret;have hsz:=hb.size;exact⟨_,rfl,(RSl.fair lQ.fair).mono Hr2.out (fun _ h _=>h),hb.trans hb2⟩
def aeN (base:Nat)(v:Value)(l:List Int)(w':World):Prop :=
 (v=Z0∧l=[])∨∃ g cap,v=.slice (some ⟨g,0,none⟩) l.length cap∧base≤g∧g<w'.heap.size∧l.length≤cap∧Holds (Value.int .i64) w' g 0 (uj l).toArray
theorem afC (base:Nat)(v:Value)(l:List Int)(w:World)(ho:Own base 3 1 aQ NoT w v l)(hl:l.length≤17592186043904)(hb:base≤w.heap.size) :
  Calls prog 68 #[v] w fun e w'=>e=.returned (.tuple #[])∧aeN base v l w'∧Below base w w':=by
 have hform:=ho;obtain⟨css,h1,_⟩:=hform;rcases h1.2 with ⟨rfl,hn⟩ | ⟨g,cap,cur,rfl,hg,hh,hnc,_⟩
 ·have:l=[]:=List.eq_nil_of_length_eq_zero hn;subst this;refine(Tryz.slices_Sort_int_none none 0 w).mono ?_;rintro e w' ⟨rfl,rfl⟩;exact⟨rfl,.inl ⟨rfl,rfl⟩,Below.refl _ _⟩
 ·have hgl:g<w.heap.size:=(Array.getElem?_eq_some_iff.1 hh).1;have hH:Holds (Value.int .i64) w g 0 l.toArray:=Own.holds ho rfl (fun k x y cs hx hy hr=>by
   have hr':cs=[O x]:=hr;rw[hx] at hy;injection hy with hy
   rw[hr',←hy])
  have hcall:=Tryz.slices_Sort_int g 0 cap l w hH hgl (by omega);refine hcall.mono ?_;rintro e w' ⟨rfl,n,os,rfl⟩;have hgr:=sF (Value.int .i64) w n g 0 (l.mergeSort fun x y=>decide (x≤y)).toArray os;refine⟨rfl,.inr ⟨g,cap,rfl,hg,Nat.lt_of_lt_of_le hgl hgr.size,hnc,?_⟩,(Below.refl _ _).grown hgr hb (fun g' hg'=>by cases hg';exact hg)⟩;refine holds_grow _ _ os g 0 _ (by rw[size_putRow];exact hgl) ?_;exact holds_putRow _ _ g 0 l.toArray _ (holds_ahead _ w n g 0 _ hH) (by simp[uj])
theorem xh (l:List Int):(Lib.compact l).length≤l.length:=Lib.compact_length_le l
theorem Xi (base:Nat)(v:Value)(l:List Int)(w:World)(hs:aeN base v l w)(hl:l.length≤17592186043904)(hb:base≤w.heap.size) :
  Calls prog 201 #[v] w fun e w'=>∃ v',e=.returned v'∧RSl 1 8 aQ (fun g=>base≤g) w' [v'] (Lib.compact (uj l))∧Below base w w':=by
 rcases hs with ⟨rfl,rfl⟩ | ⟨g,cap,rfl,hg,hgl,hnc,hH⟩
 ·refine(Tryz.slices_Compact_int_empty none 0 w).mono ?_;rintro e w' ⟨rfl,rfl⟩;exact⟨_,rfl,(by rw[show Lib.compact (uj [])=[] from by simp[uj,Lib.compact,Lib.compactUpTo]];exact RSl.dJ),Below.refl _ _⟩
 ·have hlen:=Bb l;have hcall:=Tryz.slices_Compact_int g 0 cap (uj l) w hH (by omega) (by omega);rw[hlen] at hcall;refine hcall.mono ?_;rintro e w' ⟨rfl,q,rfl⟩;obtain⟨zs,hzs⟩:=exE (Lib.compact (uj l)++List.replicate (l.length-(Lib.compact (uj l)).length) 0);have hle:=xh (uj l);have hzl:zs.length=(uj l).length:=by rw[hzs];simp;omega
  rw[←hzs];have hgr:=sF (Value.int .i64) w q g 0 zs.toArray #[];have hc:=EY (n:=q) (os:=#[]) hH hgl hzl;have e0:grow (putRow (Value.int .i64) (Sort.ahead w q) g 0 zs.toArray) #[]=putRow (Value.int .i64) (Sort.ahead w q) g 0 zs.toArray:=by unfold grow;rw[Array.append_empty]
  rw[e0] at hgr hc;refine⟨_,rfl,?_,(Below.refl _ _).grown hgr hb (fun g' hg'=>by cases hg';exact hg)⟩;refine RSl.of_cells (by_:=8) hg (Nat.lt_of_lt_of_le hgl hgr.size) (by omega) (by omega) (fun k x hx=>⟨O x,?_,rfl⟩);have hk:k<(Lib.compact (uj l)).length:=by
   rcases Nat.lt_or_ge k (Lib.compact (uj l)).length with h | h
   ·exact h
   ·rw[List.getElem?_eq_none h] at hx;cases hx
  refine(hc k (by omega)).trans ?_;have:zs[k]? = some x:=by rw[hzs,List.getElem?_append_left hk];exact hx
  rw[List.getElem?_eq_getElem (by omega)] at this;injection this with this
  rw[this]
theorem aaM (S:Nat→Prop)(v:Value)(l:List ax)(w:World)(hl:RSl 5 96 ah S w [v] l)(hlen:(l.flatMap fun t=>t.items.map (·.n)).length≤17592186043904) :
  Calls prog 168 #[v] w (aep 8 aQ w (dE l)):=by
 obtain⟨A,cap,rfl,hlc,hlb⟩:=hl.form;have HL:=hidL hl;obtain⟨R,hR⟩:=exE (l.flatMap fun t=>t.items.map (·.n));have hNF:dE l=Lib.compact (uj R):=by unfold dE;rw[hR]
 rw[←hR] at hlen;have HR:=hidL hR;have HLN:=hidL hlen;rw[hNF];clear hl hNF hR hlen;go_enter func168,ntmps168;go_wp2_with fail;go_loopw [3,10] (fun v i wr=>∃ (k:Nat) (acc:List Int),i=O k∧k≤l.length∧Hid (acc++((l.drop k).flatMap fun t=>t.items.map (·.n))=R) ∧
   Own w.heap.size 3 1 aQ NoT wr v acc∧Below w.heap.size w wr) (fun _ i _=>l.length-(intOf i).toNat)
 case atStart=>exact⟨0,[],rfl,by omega,(show _=_ by rw[HR.out,List.drop_zero,List.nil_append]),Own.dJ _ _ _ _ _ _,Below.refl _ _⟩
 case round =>
  obtain⟨k,acc,rfl,hk,ht,ho,hb⟩:=hrel;obtain⟨Ao,co,rfl,hco⟩:=ho.form
  by_cases hlt:k<l.length
  ·obtain⟨g,o,es,rfl,hS,hg,hes,hr,hc0⟩:=HL.out.at_ hlt;have hc:=hc0.keep (az.of_below hb) hS;have hgw:g<wr.heap.size:=Nat.lt_of_lt_of_le hg hb.size;have hd:l.drop k=l[k]::l.drop (k+1):=List.drop_eq_getElem_cons hlt;obtain⟨t,hte⟩:=exE (l[k]);rw[←hte] at hr hd;have ht2:acc++(t.items.map (·.n)++(l.drop (k+1)).flatMap fun t=>t.items.map (·.n))=R:=by rw[←ht.out,hd];simp
   have Ht2:=hidL ht2;obtain⟨B1,l1,B2,l2,B3,l3,rfl,-,-,hI⟩:=hr.parts;obtain⟨_,_,hif,hic,hib⟩:=hI.form;have q0:=hc.a0 rfl;have q1:=hc.at_ 1 rfl;have q2:=hc.at_ 2 rfl;have q3:=hc.at_ 3 rfl;have q4:=hc.at_ 4 rfl;have HI:=hidL hI;have hwa:=hb.alloc hb.size (.cells (TT t B1 l1 B2 l2 B3 l3).toArray 53);have hoa:=ho.alloc aQ.fair (.cells (TT t B1 l1 B2 l2 B3 l3).toArray 53);clear hr hI hc hc0 hd hte hes ht2 ht hif;go_wp2_with fail;go_loopw [3,17] (fun v i wi=>∃ (j:Nat) (acc2:List Int),i=O j∧j≤t.items.length∧Hid (acc2++((t.items.drop j).map (·.n)++(l.drop (k+1)).flatMap fun t=>t.items.map (·.n))=R) ∧
     Own w.heap.size 3 1 aQ NoT wi v acc2∧Below w.heap.size w wi) (fun _ i _=>t.items.length-(intOf i).toNat)
   case atStart=>exact⟨0,acc,rfl,by omega,Ht2,hoa,hwa⟩
   case round =>
    obtain⟨j,acc2,rfl,hj,ht3,ho3,hb3⟩:=hrel;clear ho hoa hwa hco;obtain⟨Ao2,co2,rfl,hco2⟩:=ho3.form
    by_cases hjl:j<t.items.length
    ·obtain⟨g2,o2,rfl,hS2,hg2⟩:=HI.out.base (by omega);have hc3:=(HI.out.flat (enc:=dD) hjl).keep (az.of_below hb3) hS2;have hgw2:g2<wr.heap.size:=Nat.lt_of_lt_of_le hg2 hb3.size;have hd2:t.items.drop j=t.items[j]::t.items.drop (j+1):=List.drop_eq_getElem_cons hjl;obtain⟨x,hxe⟩:=exE (t.items[j]);rw[←hxe] at hc3 hd2;have q0:=hc3.a0 rfl;have q1:=hc3.at_ 1 rfl;have ht4:(acc2++[x.n])++((t.items.drop (j+1)).map (·.n)++(l.drop (k+1)).flatMap fun t=>t.items.map (·.n))=R:=by rw[←ht3.out,hd2];simp
     have hn4:acc2.length+1≤17592186043904:=by
      have h1:=HLN.out;rw[←ht4] at h1;simp only[List.length_append,List.length_cons,List.length_nil] at h1;omega
     have Ht4:=hidL ht4;have Hn4:=hidL hn4;clear ht4 ht3 hn4 hd2 hxe hc3;have hw5:=hb3.alloc hb3.size (.cells #[.string x.name,O x.n] 57);have ho5:=ho3.alloc aQ.fair (.cells #[.string x.name,O x.n] 57);go_wp2_with (at_builtin;go_must (refine bv _ rfl (.tmp 21) (.tmp 24) rfl qh aQ.fair rfl rfl (ho5.alloc aQ.fair _) (Src.one (es:=[O x.n]) (y:=x.n) rfl (gI.bK rfl) rfl (ik.newAt (by first | rfl | simp[World.setCell]))) (NoT.lt _) ?_ ?_ ?_))
     ·have:=Hn4.out;go_light;(try simp only[List.length_cons,List.length_nil]);omega
     ·have:=hw5.size;go_light;simp only[World.size_alloc] at *;omega
     ·intro v6 w6 ho6 hg6 hv6;have hw6:=below_grown (hw5.alloc hw5.size (.cells #[O x.n] 3)) hg6 (hw5.alloc hw5.size (.cells #[O x.n] 3)).size (fun g' h=>by have:=(ho5.lt h).1;go_light;omega);go_wp2;go_roundw
      case rel=>exact⟨j+1,acc2++[x.n],by go_num,by omega,Ht4,ho6,hw6⟩
      case measure=>simp[intOf];omega
    ·have Ht5:=hidL (show acc2++((l.drop (k+1)).flatMap fun t=>t.items.map (·.n))=R by rw[←ht3.out,List.drop_eq_nil_of_le (show t.items.length≤j by omega)];rfl);clear ht3;go_wp2;go_roundw
     case rel=>exact⟨k+1,acc2,by go_num,by omega,Ht5,ho3,hb3⟩
     case measure=>simp[intOf];omega
  ·have hfin:acc=R:=by rw[←ht.out,List.drop_eq_nil_of_le (by omega)];simp
   have hnl:acc.length≤17592186043904:=by rw[hfin];exact HLN.out
   have Hcall:=hidL (afC w.heap.size _ acc wr ho hnl hb.size);have Hnl:=hidL hnl;have Hfin:=hidL hfin;clear ho ht hfin hnl;go_wp2_with fail;refine Hcall.out.mono ?_;rintro e w2 ⟨rfl,hr2,hb2⟩;have hw2:=hb.trans hb2;have Hcall2:=hidL (Xi w.heap.size _ acc w2 hr2 Hnl.out hw2.size);clear hr2;go_wp2_with fail;refine Hcall2.out.mono ?_;rintro e w3 ⟨v3,rfl,hr3,hb3⟩;have Hr3:=hidL hr3;clear hr3;go_wp2;go_ret;exact⟨_,rfl,(RSl.fair aQ.fair).mono (Hfin.out ▸ Hr3.out) (fun _ h _=>h),hw2.trans hb3⟩
end
section
open Go.Proofs.Tryz
open Go.RowKit
theorem UX:dK prog 50 55 5 56:=dK.mk (z:=.agg (FF 0 .empty .empty 0 0).toArray) underlying50 (by decide) (by decide) (by kernel_rfl) rfl
theorem aab:dK prog 51 57 2 24:=dK.mk (z:=.agg #[.string .empty,O 0]) underlying51 (by decide) (by decide) (by kernel_rfl) rfl
theorem qF:dK prog 30 97 3 32:=dK.mk (z:=.agg #[.string .empty,O 0,O 0]) underlying30 (by decide) (by decide) (by kernel_rfl) rfl
theorem QR:dK prog 36 53 5 96:=dK.mk (z:=.agg #[.string .empty,.bool false,Z0,Z0,Z0]) underlying36 (by decide) (by decide) (by kernel_rfl) rfl
theorem Own.ne {α β:Type}{R:Rel α}{R':Rel β}{b1 b2 e e' s s':Nat}{T T':Nat→Prop}{w:World}{v v':Value}{xs:List α}{ys:List β}(h:Own b1 e s R T w v xs)(h':Own b2 e' s' R' T' w v' ys)(hne:e≠e'):v.ownBlock=none∨v.ownBlock≠v'.ownBlock:=by
 obtain⟨_,h1,_⟩:=h;obtain⟨_,h2,_⟩:=h';rcases h1.2 with ⟨rfl,_⟩ | ⟨g,cap,cur,rfl,_,hh,_⟩
 ·exact .inl rfl
 ·right;rcases h2.2 with ⟨rfl,_⟩ | ⟨g',cap',cur',rfl,_,hh',_⟩
  ·simp[Value.ownBlock]
  ·intro he;have:g=g':=by simpa[Value.ownBlock] using he
   subst this;rw[hh] at hh';injection hh' with hh'
   injection hh' with _ ht
   exact hne ht
structure TB (base:Nat) (w:World) (vf vg vi vb:Value) (F:List ay) (G:List Int) (I:List dC) (B:List aX):Prop where
 f:Own base 55 5 aH NoT w vf F
 g:Own base 3 1 aQ NoT w vg G
 i:Own base 57 2 aO NoT w vi I
 b:Own base 97 3 aU NoT w vb B
section
variable {base:Nat}{w w':World}{vf vg vi vb v':Value}{F:List ay}{G:List Int}{I:List dC}{B:List aX}
theorem TB.nil (base:Nat)(w:World):TB base w (Z0) (Z0) (Z0) (Z0) [] [] [] [] :=
 ⟨Own.dJ _ _ _ _ _ _,Own.dJ _ _ _ _ _ _,Own.dJ _ _ _ _ _ _,Own.dJ _ _ _ _ _ _⟩
theorem TB.below (h:TB base w vf vg vi vb F G I B)(hb:Below w.heap.size w w'):TB base w' vf vg vi vb F G I B :=
 ⟨h.f.below aH.fair hb,h.g.below aQ.fair hb,h.i.below aO.fair hb,h.b.below aU.fair hb⟩
theorem TB.alloc (h:TB base w vf vg vi vb F G I B)(o:Obj):TB base (w.alloc o) vf vg vi vb F G I B:=h.below ((Below.refl _ _).alloc (Nat.le_refl _) o)
theorem TB.alB (h:TB base w vf vg vi vb F G I B){x:List ay}(hg:w.grownBy w' vf.ownBlock)(ho:Own base 55 5 aH NoT w' v' x):TB base w' v' vg vi vb x G I B :=
 ⟨ho,h.g.kept aQ.fair hg (h.g.ne h.f (by decide)) (fun _ _ h=>h),h.i.kept aO.fair hg (h.i.ne h.f (by decide)) (fun _ _ h=>h),h.b.kept aU.fair hg (h.b.ne h.f (by decide)) (fun _ _ h=>h)⟩
theorem TB.aly (h:TB base w vf vg vi vb F G I B){x:List Int}(hg:w.grownBy w' vg.ownBlock)(ho:Own base 3 1 aQ NoT w' v' x):TB base w' vf v' vi vb F x I B :=
 ⟨h.f.kept aH.fair hg (h.f.ne h.g (by decide)) (fun _ _ h=>h),ho,h.i.kept aO.fair hg (h.i.ne h.g (by decide)) (fun _ _ h=>h),h.b.kept aU.fair hg (h.b.ne h.g (by decide)) (fun _ _ h=>h)⟩
theorem TB.alr (h:TB base w vf vg vi vb F G I B){x:List dC}(hg:w.grownBy w' vi.ownBlock)(ho:Own base 57 2 aO NoT w' v' x):TB base w' vf vg v' vb F G x B :=
 ⟨h.f.kept aH.fair hg (h.f.ne h.i (by decide)) (fun _ _ h=>h),h.g.kept aQ.fair hg (h.g.ne h.i (by decide)) (fun _ _ h=>h),ho,h.b.kept aU.fair hg (h.b.ne h.i (by decide)) (fun _ _ h=>h)⟩
theorem TB.pushB (h:TB base w vf vg vi vb F G I B){x:List aX}(hg:w.grownBy w' vb.ownBlock)(ho:Own base 97 3 aU NoT w' v' x):TB base w' vf vg vi v' F G I x :=
 ⟨h.f.kept aH.fair hg (h.f.ne h.b (by decide)) (fun _ _ h=>h),h.g.kept aQ.fair hg (h.g.ne h.b (by decide)) (fun _ _ h=>h),h.i.kept aO.fair hg (h.i.ne h.b (by decide)) (fun _ _ h=>h),ho⟩
theorem TB.setCell (h:TB base w vf vg vi vb F G I B){p:Addr}(u:Value)(hp:p.block<base):TB base (w.setCell p u) vf vg vi vb F G I B :=
 ⟨h.f.setCell aH.fair u (fun e=>by have:=(h.f.lt e).1;omega) (fun h=>h),h.g.setCell aQ.fair u (fun e=>by have:=(h.g.lt e).1;omega) (fun h=>h),h.i.setCell aO.fair u (fun e=>by have:=(h.i.lt e).1;omega) (fun h=>h),h.b.setCell aU.fair u (fun e=>by have:=(h.b.lt e).1;omega) (fun h=>h)⟩
end
theorem Er:jN.length=30:=by simp[jN]
theorem akb {k:Nat}(hk:k<30):jN[k]'(by rw[Er];exact hk)=(k:Int)+1:=by simp[jN]
theorem fV {α:Type}(f:Int→List α){k:Nat}(hk:k<30):(jN.take (k+1)).flatMap f=(jN.take k).flatMap f++f ((k:Int)+1):=by
 rw[List.take_add_one,List.getElem?_eq_getElem (by rw[Er];exact hk),akb hk];simp
theorem sJ {α β:Type}(l:List α)(f:α→List β){k:Nat}(hk:k<l.length):(l.take (k+1)).flatMap f=(l.take k).flatMap f++f l[k]:=by
 rw[List.take_add_one,List.getElem?_eq_getElem hk,List.flatMap_append];simp only[Option.toList,List.flatMap_cons,List.flatMap_nil,List.append_nil]
section
variable {x y z:ax}{name:ByteArray}{id:Int}{s1 s2:iP}{ok1 ok2:Bool}
theorem abP (h1:(s1,ok1)=fT x y z id)(h2:(s2,ok2)=gT x y z id)(hb:(!ok1||(s1.there&&s2.there))=true):dL x y z id=[]∧lh x y z id=[]∧nR x y z name id=[⟨name,id,0⟩]:=by
 have e:ui x y z id=true:=by unfold ui;rw[←h1,←h2];exact hb
 unfold dL lh nR;simp[e]
theorem abK (h1:(s1,true)=fT x y z id)(h2:(s2,ok2)=gT x y z id)(ht:s1.there=true)(hg:s2.there=false):dL x y z id=[s1.field]∧lh x y z id=[]∧nR x y z name id=[]:=by
 have e:ui x y z id=false:=by unfold ui;rw[←h1,←h2];simp[ht,hg]
 unfold dL lh nR;rw[←h1];simp[e,ht]
theorem aeB (h1:(s1,true)=fT x y z id)(h2:(s2,ok2)=gT x y z id)(ht:s1.there=false)(hg:s2.there=true):dL x y z id=[]∧lh x y z id=[id]∧nR x y z name id=[]:=by
 have e:ui x y z id=false:=by unfold ui;rw[←h1,←h2];simp[ht,hg]
 unfold dL lh nR;rw[←h1,←h2];simp[e,ht,hg]
theorem aeX (h1:(s1,true)=fT x y z id)(h2:(s2,ok2)=gT x y z id)(ht:s1.there=false)(hg:s2.there=false):dL x y z id=[]∧lh x y z id=[]∧nR x y z name id=[]:=by
 have e:ui x y z id=false:=by unfold ui;rw[←h1,←h2];simp[ht,hg]
 unfold dL lh nR;rw[←h1,←h2];simp[e,ht,hg]
theorem ahJ (h:(s1,false)=iT x y z id):iX x y z id=[]∧qa x y z name id=[⟨name,id,0⟩]:=by
 unfold iX qa;rw[←h];simp
theorem afb (h:(s1,true)=iT x y z id)(ht:s1.there=true):iX x y z id=[⟨s1.item,id⟩]∧qa x y z name id=[]:=by
 unfold iX qa;rw[←h];simp[ht]
theorem aeW (h:(s1,true)=iT x y z id)(ht:s1.there=false):iX x y z id=[]∧qa x y z name id=[]:=by
 unfold iX qa;rw[←h];simp[ht]
end
end
end Go.Proofs.YtknnhpkjgnkcdaaGreatDoor
