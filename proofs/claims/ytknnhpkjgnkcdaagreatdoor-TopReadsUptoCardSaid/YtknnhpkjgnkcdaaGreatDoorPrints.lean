/- Walks and plain laws. -/
import Derived.Lib.MakeNoZero
import Derived.Test.YtknnhpkjgnkcdaaGreatDoorReads
import Derived.Test.YtknnhpkjgnkcdaaGreatDoorPLaws
import Derived.Deep.CutBlock
set_option linter.all false
set_option maxRecDepth 100000
set_option maxHeartbeats 8000000
namespace Go.Proofs.YtknnhpkjgnkcdaaGreatDoor
open Go.Proofs.Tryz
open Go.RowKit
theorem alv:∃ j,prog.info? 123=some j∧j.size=2:=Option.map_eq_some_iff.1 (by kernel_rfl:(prog.info? 123).map (·.size)=some 2)
theorem amV:liesAt prog prog.depth 123 (2 / prog.cellsOf 123) 0 123 1=true:=by kernel_rfl
theorem XP (b:Nat)(w:World)(h0:w.cell? ⟨b,0,none⟩=some (.pointer (some ⟨b,0,none⟩))) :
  Calls prog 97 #[.pointer (some ⟨b,0,none⟩)] w fun e w'=>e=.returned (.tuple #[])∧w'=w:=by
 obtain⟨j,hj,_⟩:=alv;go_enter func97,ntmps97;go_wp2_with fail;rw[Lib.run_neq_ptr_same w _ underlying120 hj];go_wp2_with fail;refine bodyPost_end (results_none rfl _ _ _) rfl ?_;exact⟨rfl,rfl⟩
theorem Tk (b:Nat)(w:World)(h0:w.cell? ⟨b,0,none⟩=some (.pointer none))(hsh:w.shape? b=some (123,2))(hfz:w.frozen? ⟨b,0,none⟩=false) :
  Calls prog 97 #[.pointer (some ⟨b,0,none⟩)] w fun e w'=>e=.returned (.tuple #[])∧w'=w.setCell ⟨b,0,none⟩ (.pointer (some ⟨b,0,none⟩)):=by
 obtain⟨j,hj,hjs⟩:=alv;go_enter func97,ntmps97;go_wp2_with fail;rw[Lib.run_to_unsafe w ⟨b,0,none⟩ underlying120 underlying204 hj (by rw[hjs];decide) hsh (Nat.zero_lt_succ 1)];simp only[Result.andThen];rw[Oper.upon_value];go_wp2_with fail;rw[run_callFunc_extern func131 (by kernel_rfl) (by kernel_rfl) (by kernel_rfl) (e:=Extern.AbiNoEscape.same) (by kernel_rfl)];rw[Lib.run_noEscape];simp only[Result.andThen];rw[Oper.upon_value];go_wp2_with fail;rw[Lib.run_from_unsafe w ⟨b,0,none⟩ underlying204 underlying120 hj hsh amV];simp only[Result.andThen];rw[Oper.upon_value];go_wp2_with fail;refine bodyPost_end (results_none rfl _ _ _) rfl ?_;exact⟨rfl,rfl⟩
abbrev IsB (B b:Nat)(l:List UInt8)(w:World):Prop:=Lib.IsBuilder 123 5 B b (Lib.byteCells l) w
def Md (b:Nat)(w w':World):Prop:=∀ k t cs,t≠5→k≠b→Box w k t cs→Box w' k t cs
theorem TH (B b:Nat)(bs:List Value)(w:World)(h:Lib.IsBuilder 123 5 B b bs w) :
  Calls prog 97 #[.pointer (some ⟨b,0,none⟩)] w fun e w'=>e=.returned (.tuple #[])∧(Lib.BuilderAt 123 5 B b (.pointer (some ⟨b,0,none⟩)) bs w'∧Below B w w'∧Md b w w'):=by
 rcases h with h | h
 ·refine(Tk b w h.cell0 h.shape h.frozen0).mono ?_;rintro e w' ⟨rfl,rfl⟩;exact⟨rfl,h.used _,(Below.refl B w).setCell (p:=⟨b,0,none⟩) h.1 _,fun k t cs _ hk hb=>hb.far (p:=⟨b,0,none⟩) hk _⟩
 ·refine(XP b w h.cell0).mono ?_;rintro e w' ⟨rfl,rfl⟩;exact⟨rfl,h,Below.refl B _,fun _ _ _ _ _ hb=>hb⟩
theorem QU (B b:Nat)(bs:List Value)(s:ByteArray)(w:World)(h:Lib.IsBuilder 123 5 B b bs w)(hlen:bs.length+s.size≤140737488355328)(hBw:B≤w.heap.size) :
  Calls prog 58 #[.pointer (some ⟨b,0,none⟩),.string s] w fun e w'=>e=.returned (.tuple #[O s.size,.nilIface])∧(Lib.BuilderAt 123 5 B b (.pointer (some ⟨b,0,none⟩)) (bs++Lib.strCells s) w'∧Below B w w'∧Md b w w'):=by
 obtain⟨i0,hi,hz0,hz1,hz2⟩:=info_parts (show (prog.info? 5).map (fun i=>(i.zero,i.size,i.bytes))=some (some (.int .u8 0),1,1) by kernel_rfl);go_enter func58,ntmps58;go_wp2_with fail;refine(TH B b bs _ h).mono ?_;rintro e w1 ⟨rfl,h1,hb1,ho1⟩;have Ho1:=hidL ho1;clear ho1;obtain⟨hB,v,hbk,hown,hne⟩:=h1;have c0:w1.cell? ⟨b,0,none⟩=some (.pointer (some ⟨b,0,none⟩)):=by rw[Lib.cell_of_heap hbk];rfl
 have c1:w1.cell? ⟨b,1,none⟩=some v:=by rw[Lib.cell_of_heap hbk];rfl
 go_wp2_with (at_builtin;refine Lib.wpList_append_own_string _ rfl _ _ 121 9 rfl B 5 i0 underlying121 underlying9 hi hz0 hz1 hz2 _ _ _ rfl hown s rfl ?c3 ?c4 ?c5 ?_)
 case c3=>unfold maxLen;omega
 case c4=>omega
 case c5=>have:=hb1.size;omega
 intro v' w2 hown' hgrow _;have hlt:b<w1.heap.size:=by
  rcases Nat.lt_or_ge b w1.heap.size with h' | h'
  ·exact h'
  ·simp[Array.getElem?_eq_none h'] at hbk
 have hb2:w2.heap[b]? = some (.cells #[.pointer (some ⟨b,0,none⟩),v] 123 (0,0)):=by
  rw[hgrow.block b hlt (fun e=>hne e.symm)];exact hbk
 have Ho2:Hid (Md b w w2):=(show Md b w w2 from fun k t cs h5 hk hb=>by
  have h1:=Ho1.out k t cs h5 hk hb;refine h1.grown hgrow (fun e=>?_);rcases hown.2 with ⟨rfl,_⟩ | ⟨g,cap,cur,rfl,_,hh,_⟩
  ·cases e
  ·have:g=k:=by simpa[Value.ownBlock] using e
   subst this;unfold Box at h1;rw[hh] at h1;injection h1 with h1
   injection h1 with _ ht
   exact h5 ht.symm)
 have d0:w2.cell? ⟨b,0,none⟩=some (.pointer (some ⟨b,0,none⟩)):=by rw[Lib.cell_of_heap hb2];rfl
 have d1:w2.cell? ⟨b,1,none⟩=some v:=by rw[Lib.cell_of_heap hb2];rfl
 have f1:w2.frozen? ⟨b,1,none⟩=false:=Lib.frozen_of_heap hb2 1;obtain⟨ao,n',cap,rfl⟩:∃ ao n' cap,v'=.slice ao n' cap:=by
  rcases hown'.2 with ⟨hv,_⟩ | ⟨g,cap,cur,hv,_⟩
  ·exact⟨_,_,_,hv⟩
  ·exact⟨_,_,_,hv⟩
 go_wp2_with fail
 go_ret2
 refine⟨rfl,?_,?_,fun k t cs h5 hk hb=>(Ho2.out k t cs h5 hk hb).far (p:=⟨b,1,none⟩) hk _⟩
 ·exact Lib.BuilderAt.put (T:=123) (e:=5) hB hb2 (bs':=bs++Lib.strCells s) (by simpa[Lib.strCells_length] using hown') (by decide)
 ·exact(hb1.grown hgrow (by have:=hb1.size;omega) (fun k hk=>(hown.lt k hk).1)).setCell (p:=⟨b,1,none⟩) hB _
theorem TQ (B b:Nat)(l:List UInt8)(s:ByteArray)(w:World)(h:IsB B b l w)(hlen:l.length+s.size≤140737488355328)(hBw:B≤w.heap.size) :
  Calls prog 58 #[.pointer (some ⟨b,0,none⟩),.string s] w fun e w'=>e=.returned (.tuple #[O s.size,.nilIface])∧IsB B b (l++bytes s) w'∧Below B w w'∧Md b w w':=by
 refine(QU B b _ s w h (by rw[Lib.byteCells_length];exact hlen) hBw).mono ?_;rintro e w' ⟨rfl,h1,h2,h3⟩;refine⟨rfl,.inr ?_,h2,h3⟩;rw[Lib.byteCells_append];exact h1
theorem IsB.below {B b:Nat}{l:List UInt8}{w w':World}(h:IsB B b l w)(hb:Below w.heap.size w w'):IsB B b l w':=by
 have key:∀ p,Lib.BuilderAt 123 5 B b p (Lib.byteCells l) w→Lib.BuilderAt 123 5 B b p (Lib.byteCells l) w':=by
  rintro p ⟨h1,v,h2,⟨h3,h4⟩,h5⟩;refine⟨h1,v,(hb.block b (Array.getElem?_eq_some_iff.1 h2).1).trans h2,⟨h3,?_⟩,h5⟩;rcases h4 with h4 | ⟨g,cap,cur,hv,hg,hh,hr⟩
  ·exact .inl h4
  ·exact .inr ⟨g,cap,cur,hv,hg,(hb.block g (Array.getElem?_eq_some_iff.1 hh).1).trans hh,hr⟩
 rcases h with h | h
 ·exact .inl (key _ h)
 ·exact .inr (key _ h)
theorem IsB.lt {B b:Nat}{l:List UInt8}{w:World}(h:IsB B b l w):B≤b∧b<w.heap.size:=by
 rcases h with h | h
 ·exact⟨h.1,h.lt⟩
 ·exact⟨h.1,h.lt⟩
def PSt (w0:World)(bb:Nat)(whole tail:List UInt8)(w:World):Prop:=∃ l,l++tail=whole∧IsB w0.heap.size bb l w∧Below w0.heap.size w0 w
theorem PSt.below {w0 w w':World}{bb:Nat}{whole tail:List UInt8}(h:PSt w0 bb whole tail w)(hb:Below w.heap.size w w'):PSt w0 bb whole tail w':=by
 obtain⟨l,h1,h2,h3⟩:=h;exact⟨l,h1,h2.below hb,aa h3 hb h3.size⟩
theorem PSt.write {w0 w:World}{bb:Nat}{whole tail tail':List UInt8}(h:PSt w0 bb whole tail w)(x:ByteArray)(ht:tail=bytes x++tail')(hw:whole.length≤4000) :
  Calls prog 58 #[.pointer (some ⟨bb,0,none⟩),.string x] w fun e w'=>e=.returned (.tuple #[O x.size,.nilIface])∧PSt w0 bb whole tail' w'∧Md bb w w'∧w.heap.size≤w'.heap.size:=by
 obtain⟨l,h1,h2,h3⟩:=h;have hl:l.length+x.size≤4000:=by
  have:=congrArg List.length h1;rw[ht,List.length_append,List.length_append] at this;have e:(bytes x).length=x.size:=rfl;omega
 refine(TQ _ bb l x w h2 (by omega) h3.size).mono ?_;rintro e w' ⟨rfl,h4,h5,h6⟩;exact⟨rfl,⟨l++bytes x,by rw[←h1,ht,List.append_assoc],h4,h3.trans h5⟩,h6,h5.size⟩
theorem zM (W:World)(q:Option Addr):(Builtin.unsafeString_ #[164,3] 9 #[.pointer q,O 0]).run prog W=.ok (.string .empty) W :=
 Lib.run_unsafeString_none W _ _ _ q
theorem NV (B b:Nat)(l:List UInt8)(w:World)(h:IsB B b l w)(h0:l≠[]) :
  Calls prog 60 #[.pointer (some ⟨b,0,none⟩)] w fun e w'=>e=.returned (.string ⟨l.toArray⟩)∧Below B w w':=by
 obtain⟨p,hB,v,hbk,hown,hne⟩:∃ p,Lib.BuilderAt 123 5 B b p (Lib.byteCells l) w:=by
  rcases h with h | h
  ·exact⟨_,h⟩
  ·exact⟨_,h⟩
 have hl0:l.length≠0:=by simpa using h0
 rw[Lib.byteCells_length] at hown;obtain⟨g,cap,cur,rfl,hbg,hg,hnc,hcm,hcs,htake⟩:∃ g cap cur,v=.slice (some ⟨g,0,none⟩) l.length cap∧B≤g∧w.heap[g]? = some (.cells cur 5 (0,0))∧l.length≤cap∧cap≤maxLen∧cur.size=cap*1∧cur.toList.take (l.length*1)=Lib.byteCells l:=by
  rcases hown.2 with ⟨_,hz⟩ | ⟨g,cap,cur,hv,r⟩
  ·exact absurd hz hl0
  ·exact⟨g,cap,cur,hv,r⟩
 have c1:w.drew.cell? ⟨b,1,none⟩=some (.slice (some ⟨g,0,none⟩) l.length cap):=by
  have:w.drew.heap[b]? = some (.cells #[p,.slice (some ⟨g,0,none⟩) l.length cap] 123 (0,0)):=hbk;rw[Lib.cell_of_heap this];rfl
 have hSD:(Builtin.unsafeSliceData_ #[121] 164 #[.slice (some ⟨g,0,none⟩) l.length cap]).run prog w.drew=.ok (.pointer (some ⟨g,0,none⟩)) w.drew :=
  Lib.run_unsafeSliceData_row _ _ _ _ _ _ (by omega)
 have hUS:(Builtin.unsafeString_ #[164,3] 9 #[.pointer (some ⟨g,0,none⟩),O l.length]).run prog w.drew=.ok (.string ⟨l.toArray⟩) (w.drew.freeze ⟨g,0,none⟩ l.length):=by
  refine Lib.run_unsafeString_row w.drew 164 3 9 5 underlying164 (by kernel_rfl) g cur.size (by have hg':w.drew.heap[g]? = some (.cells cur 5 (0,0)):=hg;simp[World.shape?,hg']) l h0 (by omega) (by unfold maxLen at hcm;omega) ?_;intro j x hx;have:=hown.cells (g:=g) rfl j (.int .u8 x.toNat) (by simp[Lib.byteCells,hx]);exact this
 clear hown hbk hg htake hcs;go_enter func60,ntmps60;go_wp2_with fail
 go_region
 all_goals (go_wp2;go_ret;exact⟨rfl,Lib.below_freeze (Below.drew (Below.refl B w)) (p:=⟨g,0,none⟩) hbg _⟩)
theorem Ii (B b:Nat)(p:Value)(w:World)(hbk:w.heap[b]? = some (.cells #[p,Z0] 123 (0,0))) :
  Calls prog 60 #[.pointer (some ⟨b,0,none⟩)] w fun e w'=>e=.returned (E0)∧Below B w w':=by
 have hUS:=zM;have c1:w.drew.cell? ⟨b,1,none⟩=some (Z0):=by
  have:w.drew.heap[b]? = some (.cells #[p,Z0] 123 (0,0)):=hbk;rw[Lib.cell_of_heap this];rfl
 have hSD:(Builtin.unsafeSliceData_ #[121] 164 #[Z0]).run prog w.drew=.ok (.pointer none) w.drew:=rfl;clear hbk;go_enter func60,ntmps60;go_wp2_with fail
 go_region
 all_goals (go_wp2;go_ret;exact⟨rfl,Below.drew (Below.refl B w)⟩)
theorem Dc (B b g:Nat)(p:Value)(cur:Array Value)(w:World)(hBw:B≤w.heap.size)(hbk:w.heap[b]? = some (.cells #[p,.slice (some ⟨g,0,none⟩) 0 0] 123 (0,0)))(hg:w.heap[g]? = some (.cells cur 5 (0,0))) :
  Calls prog 60 #[.pointer (some ⟨b,0,none⟩)] w fun e w'=>e=.returned (E0)∧Below B w w':=by
 have hUS:=zM;have hlt:b<w.heap.size:=by
  rcases Nat.lt_or_ge b w.heap.size with h' | h'
  ·exact h'
  ·simp[Array.getElem?_eq_none h'] at hbk
 have c1:w.drew.cell? ⟨b,1,none⟩=some (.slice (some ⟨g,0,none⟩) 0 0):=by
  have:w.drew.heap[b]? = some (.cells #[p,.slice (some ⟨g,0,none⟩) 0 0] 123 (0,0)):=hbk;rw[Lib.cell_of_heap this];rfl
 have hSD:(Builtin.unsafeSliceData_ #[121] 164 #[.slice (some ⟨g,0,none⟩) 0 0]).run prog w.drew=.ok (.pointer (some ⟨w.drew.heap.size,0,none⟩)) (w.drew.alloc (.view ⟨g,0,none⟩ 5)) :=
  Lib.run_unsafeSliceData_zero w.drew _ _ 5 underlying164 ⟨g,0,none⟩ 0 (5,cur.size) (by have hg':w.drew.heap[g]? = some (.cells cur 5 (0,0)):=hg;simp[World.shape?,hg'])
 have c2:(w.drew.alloc (.view ⟨g,0,none⟩ 5)).cell? ⟨b,1,none⟩=some (.slice (some ⟨g,0,none⟩) 0 0):=by
  have:(w.drew.alloc (.view ⟨g,0,none⟩ 5)).heap[b]? = _:=(Lib.alloc_old w.drew _ b hlt).trans hbk;rw[Lib.cell_of_heap this];rfl
 have c3:(w.alloc (.view ⟨g,0,none⟩ 5)).drew.cell? ⟨b,1,none⟩=some (.slice (some ⟨g,0,none⟩) 0 0):=c2;have c0:w.cell? ⟨b,1,none⟩=some (.slice (some ⟨g,0,none⟩) 0 0):=c1;clear hbk hg hlt;go_enter func60,ntmps60;go_wp2_with fail
 go_region
 all_goals (go_wp2;go_ret;exact⟨rfl,(Below.drew (Below.refl B w)).alloc hBw _⟩)
theorem Gb (B b g cap:Nat)(p:Value)(w:World)(hc0:cap≠0)(hbk:w.heap[b]? = some (.cells #[p,.slice (some ⟨g,0,none⟩) 0 cap] 123 (0,0))) :
  Calls prog 60 #[.pointer (some ⟨b,0,none⟩)] w fun e w'=>e=.returned (E0)∧Below B w w':=by
 have hUS:=zM;have c1:w.drew.cell? ⟨b,1,none⟩=some (.slice (some ⟨g,0,none⟩) 0 cap):=by
  have:w.drew.heap[b]? = some (.cells #[p,.slice (some ⟨g,0,none⟩) 0 cap] 123 (0,0)):=hbk;rw[Lib.cell_of_heap this];rfl
 have hSD:(Builtin.unsafeSliceData_ #[121] 164 #[.slice (some ⟨g,0,none⟩) 0 cap]).run prog w.drew=.ok (.pointer (some ⟨g,0,none⟩)) w.drew :=
  Lib.run_unsafeSliceData_row _ _ _ _ _ _ hc0
 clear hc0 hbk;go_enter func60,ntmps60;go_wp2_with fail
 go_region
 all_goals (go_wp2;go_ret;exact⟨rfl,Below.drew (Below.refl B w)⟩)
theorem Rp (B b:Nat)(l:List UInt8)(w:World)(h:IsB B b l w)(hBw:B≤w.heap.size) :
  Calls prog 60 #[.pointer (some ⟨b,0,none⟩)] w fun e w'=>e=.returned (.string ⟨l.toArray⟩)∧Below B w w':=by
 cases l with
 | cons x r=>exact NV B b (x::r) w h (by simp)
 | nil =>
  obtain⟨p,hB,v,hbk,hown,hne⟩:∃ p,Lib.BuilderAt 123 5 B b p [] w:=by
   rcases h with h | h
   ·exact⟨_,h⟩
   ·exact⟨_,h⟩
  rcases hown.2 with ⟨rfl,_⟩ | ⟨g,cap,cur,rfl,hbg,hg,_,_,_,_⟩
  ·exact Ii B b p w hbk
  ·by_cases hc0:cap=0
   ·subst hc0;exact Dc B b g p cur w hBw hbk hg
   ·exact Gb B b g cap p w hc0 hbk
abbrev akz:=vX
def aaw (w:World)(p:List UInt8 × Int)(e:Ending)(w':World):Prop :=
 e=.returned (.tuple #[.string ⟨p.1.toArray⟩,O p.2])∧Below w.heap.size w w'
theorem PSt.fresh {w w1:World}(hb:Below w.heap.size w w1)(whole:List UInt8):PSt w w1.heap.size whole whole (w1.alloc (.cells #[.pointer none,Z0] 123)) :=
 ⟨[],rfl,.inl ⟨hb.size,_,heap_alloc_new w1 _,World.ownsRow_nil _ _ _ _,by simp[Value.ownBlock]⟩,hb.alloc hb.size _⟩
def Eb (n:Int):ByteArray:=⟨(Lib.itoa n).toArray⟩
theorem agx {t:ax}(h:t.enum=true)(R:List UInt8):bV t++R=bytes (⟨#[101,110,117,109,32]⟩++t.name++⟨#[32,123,10]⟩)++(t.items.flatMap iw++([125,10]++R)):=by
 simp[bV,h,bytes,yu]
theorem ahT {t:ax}(h:t.enum=false)(R:List UInt8):bV t++R=bytes (⟨#[109,101,115,115,97,103,101,32]⟩++t.name++⟨#[32,123,10]⟩)++(t.fields.flatMap fI++(gU t.gone++([125,10]++R))):=by
 simp[bV,h,bytes,lH]
theorem Va (x:dC)(R:List UInt8):iw x++R=bytes (⟨#[32,32]⟩++Eb x.n++⟨#[32]⟩++x.name++⟨#[59,10]⟩)++R:=by
 simp[iw,Eb,bytes]
theorem ack (f:ay)(R:List UInt8):fI f++R=bytes (⟨#[32,32]⟩++Eb f.id++⟨#[32]⟩++lC f++⟨#[32]⟩++kindName f++⟨#[32]⟩++f.name++⟨#[59,10]⟩)++R:=by
 simp[fI,Eb,bytes]
theorem lW {s:ByteArray}(h:bJ s=true):s.size≤12:=by
 unfold bJ at h;simp only[Bool.and_eq_true,decide_eq_true_eq] at h;exact h.1.2.2
theorem JD {b:av}(hg:aB b=0){t:ax}(ht:t∈b)(he:t.enum=false){f:ay}(hf:f∈t.fields):(kindName f).size≤12:=by
 have hf':=tO hg ht he hf;have hfp:=bC (bq hg ht he) hf;obtain⟨_,h1,h30,hk1,hk5,hr1,hr3,_⟩:=hf';unfold kindName;split
 ·have:f.kind=1∨f.kind=2∨f.kind=3:=by omega
  rcases this with e | e | e <;> rw[e] <;> decide
 ·have hk:=(hfp.2.2.2.2.2.2.2.2 (by omega)).1;obtain⟨t2,h2⟩:=Option.isSome_iff_exists.1 hk;unfold aM at h2;have hm:=List.mem_of_find?_eq_some h2;have hq:=List.find?_some h2;simp only[decide_eq_true_eq] at hq;obtain⟨i,hi,rfl⟩:=List.getElem_of_mem hm;rw[←hq];exact lW ((fJ hg).2.1 i hi).1
theorem PSt.old {w0 w:World}{bb:Nat}{whole tail:List UInt8}(h:PSt w0 bb whole tail w):Below w0.heap.size w0 w:=by obtain⟨_,_,_,h⟩:=h;exact h
theorem wR {n:Int}(h1 : -1099511627776≤n)(h2:n≤1099511627776):(Eb n).size≤14:=by
 have:=Qn h1 h2;show (Lib.itoa n).toArray.size≤14;simpa using this
theorem Rz (n:Int)(h1 : -1099511627776≤n)(h2:n≤1099511627776)(w:World)(hN:wO w):Calls prog 59 #[O n] w (Ret w (.string (Eb n))):=by
 refine(Tryz.strconv_Itoa n (by omega) (by omega) w hN.1).mono ?_;rintro e w3 ⟨rfl,k,os,rfl⟩;exact⟨rfl,Lib.below_grow w.heap.size w (Nat.le_refl _) k os⟩
theorem EW (S:Nat→Prop)(vb:Value)(b:av)(w:World)(hb0:RSl 5 96 ah S w [vb] b)(hW:Words w)(hN:wO w)(hL:Lists w)(hsz:aS b) :
  Calls prog 27 #[.agg #[vb]] w (aaw w (pU b)):=by
 obtain⟨p,hp⟩:=exE (pU b);rw[←hp];have Hp:=hidL hp;obtain⟨A,cap,rfl,hlc,hlb⟩:=hb0.form;have HB:=hidL hb0;have HN:=hidL hN;have HL:=hidL hL;have hG0:Below w.heap.size w (w.alloc (.cells [Value.slice A b.length cap].toArray 38)):=(Below.here w).alloc (Nat.le_refl _) _;have hZ0:=Box.new w 38 [.slice A b.length cap];have hgd:=hidL (fun W (hW':Below w.heap.size w W)=>kS S _ b W ((RSl.fair ah.fair).below hb0 hW') (hW.below hW') hsz);obtain⟨ge,hge⟩:=exE (aB b);rw[←hge] at hgd;have Hge:=hidL hge;clear hb0 hW hN hL hp hge;go_enter func27,ntmps27;go_wp2_with fail;refine(hgd.out _ hG0).mono ?_;rintro e w1 ⟨rfl,hb1⟩;have hZ1:=hZ0.below hb1 hZ0.lt;have hG1:=aa hG0 hb1 hG0.size;have z0:=hZ1.cell 0;clear hZ0 hG0 hb1 hgd
 by_cases hg0:ge=0
 ·--[GOOD
  have Hg:Hid (aB b=0):=by show _=_;rw[←Hge.out];exact hg0
  have He:Hid (p=(b.flatMap bV,0)):=by show _=_;rw[Hp.out];exact yS Hg.out
  have Hwl:=hidL (Ap Hg.out);obtain⟨whole,hwh⟩:=exE (b.flatMap bV);have hP0:=PSt.fresh hG1 whole;have Hwh:=hidL hwh;subst hg0;have hlb':b.length≤4:=(fJ Hg.out).1;clear hwh;have zl:=hZ1.lt;go_wp2_with fail;have hbb:w.heap.size<w1.heap.size:=zl;generalize w1.heap.size=bb at hP0 hbb ⊢;generalize (World.alloc w1 _)=w2 at hP0 ⊢;clear z0 zl hZ1 hG1;go_loopw [23] (fun i wr=>∃ n:Nat,i=O n∧n≤b.length∧PSt w bb whole ((b.drop n).flatMap bV) wr) (fun i _=>b.length-(intOf i).toNat)
  case atStart=>exact⟨0,rfl,Nat.zero_le _,by rw[List.drop_zero,←Hwh.out];exact hP0⟩
  case round =>
   clear hP0;obtain⟨n,rfl,hn,hP⟩:=hrel
   by_cases hlt:n<b.length
   ·--[RND
    obtain⟨g,o,es,rfl,hSg,hgw,hes,hre,hc0⟩:=HB.out.at_ hlt;have hbl:Below w.heap.size w wr:=by obtain⟨_,_,_,h⟩:=hP;exact h
    have hc:=hc0.keep (az.of_below hbl) hSg;have hgl:g<wr.heap.size:=Nat.lt_of_lt_of_le hgw hbl.size;obtain⟨t,ht⟩:=exE (b[n]);rw[←ht] at hre;have htm:t∈b:=by rw[ht];exact List.getElem_mem hlt
    have htl:Hid ((b.drop n).flatMap bV=bV t++(b.drop (n+1)).flatMap bV):=by
     show _=_;rw[List.drop_eq_getElem_cons hlt,List.flatMap_cons,←ht]
    rw[htl.out] at hP;obtain⟨R,hR⟩:=exE ((b.drop (n+1)).flatMap bV);rw[←hR] at hP;have HR:=hidL hR;obtain⟨A1,k1,A2,k2,A3,k3,rfl,hrf,hrg,hri⟩:=hre.parts;have q0:=hc.a0 rfl;have q1:=hc.at_ 1 rfl;have q2:=hc.at_ 2 rfl;have q3:=hc.at_ 3 rfl;have q4:=hc.at_ 4 rfl;have Hrf:=hidL hrf;have Hrg:=hidL hrg;have Hri:=hidL hri;have Htm:=hidL htm;have hbg:bb<wr.heap.size:=by obtain⟨_,_,h,_⟩:=hP;exact h.lt.2
    have hP1:=hP.below ((Below.here wr).alloc (Nat.le_refl _) (.cells #[.string t.name,.bool t.enum,.slice A1 t.fields.length k1,.slice A2 t.gone.length k2,.slice A3 t.items.length k3] 53));have hY1:=Box.new wr 53 [.string t.name,.bool t.enum,.slice A1 t.fields.length k1,.slice A2 t.gone.length k2,.slice A3 t.items.length k3];have e1:IntKind.i64.wrap ((n:Int)+1)=(n:Int)+1:=IntWalk.i64_in _ (by omega);have hlt':(n:Int)<(b.length:Int):=by omega
    have hnz:(0:Int)≤(n:Int):=by omega
    clear hc0 hc hre hrf hrg hri htm ht hR hP hSg hes hbl hlb;go_upto_region 8 with fail;have hYw:w.heap.size<wr.heap.size:=Nat.lt_trans hbb hbg;generalize wr.heap.size=Y at hY1 hbg hYw ⊢;generalize (World.alloc wr _)=w1' at hP1 hY1 ⊢;clear q0 q1 q2 q3 q4 hgl;obtain⟨y0,y1,y2,y3,y4⟩:=hY1.five;have yl:=hY1.lt;have hnl:t.name.size≤12:=by
     have hg:=Hg.out;obtain⟨i,hi,rfl⟩:=List.getElem_of_mem Htm.out;have:=((fJ hg).2.1 i hi).1;unfold bJ at this;simp only[Bool.and_eq_true,decide_eq_true_eq] at this;exact this.1.2.2
    cases hen:t.enum with
    | true =>
     rw[hen] at y1;have hw1:=hidL (hP1.write (⟨#[101,110,117,109,32]⟩++t.name++⟨#[32,123,10]⟩) (agx hen R) (by have:=Hwl.out;rw[←Hwh.out] at this;omega));go_wp2_with fail;refine hw1.out.mono ?_;rintro e w2 ⟨rfl,hP2,ho2,hs2⟩;have hY2:=ho2 _ _ _ (by decide) (show Y≠bb by omega) hY1;have y4':w2.cell? ⟨Y,4,none⟩=some (.slice A3 t.items.length k3):=hY2.cell 4;have yl':=hY2.lt;clear hY1 hY2 hP1 ho2 hs2 y0 y1 y2 y3 y4 yl;go_wp2_with fail;clear y4' yl';go_loopw [37] (fun i wr=>∃ k:Nat,i=O k∧k≤t.items.length∧PSt w bb whole ((t.items.drop k).flatMap iw++([125,10]++R)) wr) (fun i _=>t.items.length-(intOf i).toNat)
     case atStart=>exact⟨0,rfl,Nat.zero_le _,hP2⟩
     case round =>
      clear hP2;obtain⟨k,rfl,hk,hP⟩:=hrel;have hil:t.items.length≤6:=(fE Hg.out Htm.out hen).2.2.1
      by_cases hkl:k<t.items.length
      ·--[ITEM
       have hkl':(k:Int)<(t.items.length:Int):=by omega
       have hkz:(0:Int)≤(k:Int):=by omega
       have e2:IntKind.i64.wrap ((k:Int)+1)=(k:Int)+1:=IntWalk.i64_in _ (by omega);obtain⟨g2,o2,es2,rfl,hS2,hgw2,-,hre2,hc2⟩:=Hri.out.at_ hkl;have hbl2:Below w.heap.size w wr:=by obtain⟨_,_,_,h⟩:=hP;exact h
       have hc2':=hc2.keep (az.of_below hbl2) hS2;have hgl2:g2<wr.heap.size:=Nat.lt_of_lt_of_le hgw2 hbl2.size;obtain⟨x,hx⟩:=exE (t.items[k]);rw[←hx] at hre2;have he2:es2=dD x:=hre2;subst he2;have r0:=hc2'.a0 rfl;have r1:=hc2'.at_ 1 rfl;have htl2:Hid ((t.items.drop k).flatMap iw++([125,10]++R)=iw x++((t.items.drop (k+1)).flatMap iw++([125,10]++R))):=by
        show _=_;rw[List.drop_eq_getElem_cons hkl,List.flatMap_cons,←hx,List.append_assoc]
       rw[htl2.out] at hP;have hxg:=(fE Hg.out Htm.out hen).1 k hkl;rw[←hx] at hxg;have hx1 : -1099511627776≤x.n:=hxg.2.1;have hx2:x.n≤1099511627776:=hxg.2.2.1;have hxn:x.name.size≤12:=lW hxg.1;have hbg2:bb<wr.heap.size:=by obtain⟨_,_,h,_⟩:=hP;exact h.lt.2
       have hP3:=hP.below ((Below.here wr).alloc (Nat.le_refl _) (.cells #[.string x.name,O x.n] 57));have hY3:=Box.new wr 57 [.string x.name,O x.n];clear hc2 hc2' hre2 hx hP hS2 hgw2 hbl2 hxg;go_upto_region 13 with fail;clear r0 r1 hgl2;generalize wr.heap.size=Y3 at hY3 hbg2 ⊢;generalize (World.alloc wr _)=w3 at hP3 hY3 ⊢;have hS:(fun W'=>World.cell? W' ⟨Y3,0,none⟩=some (.string x.name)∧World.cell? W' ⟨Y3,1,none⟩=some (O x.n)) w3.drew:=⟨hY3.drew.cell 0,hY3.drew.cell 1⟩;have hPd:=hP3.below (au (Below.here w3));have hYd:=hY3.drew;refine aJ (fun W'=>World.cell? W' ⟨Y3,0,none⟩=some (.string x.name)∧World.cell? W' ⟨Y3,1,none⟩=some (O x.n)) (fun i=>i != 9) (by kernel_rfl) ?_;clear hP3 hY3;generalize w3.drew=Wd at hPd hYd hS ⊢;apply ppP 0;apply tkP 1 hS;apply ppP 5;apply tkP 6 hS
       try simp only[pu]
       refine ang 2 (fun K hK=>?_);go_simp;refine(Rz x.n hx1 hx2 Wd (HN.out.below hPd.old)).mono ?_;rintro e w5 ⟨rfl,hb5⟩;have hP5:=hPd.below hb5;have hY5:=hYd.below hb5 hYd.lt;replace hS:(fun W'=>World.cell? W' ⟨Y3,0,none⟩=some (.string x.name)∧World.cell? W' ⟨Y3,1,none⟩=some (O x.n)) w5:=⟨hY5.cell 0,hY5.cell 1⟩;clear hPd hYd hb5;refine hK.out _ _ (fun _ _=>hS) ?_
       try simp only[pu]
       have hsv:=wR hx1 hx2;have htl3:=Va x ((t.items.drop (k+1)).flatMap iw++([125,10]++R));have hw6:=hidL (hP5.write _ htl3 (by have:=Hwl.out;rw[←Hwh.out] at this;omega));generalize Eb x.n=sv at hsv hw6 ⊢;have g1:¬ 9223372036854775807<2+sv.size:=by omega
       have g2:¬ 9223372036854775807<2+sv.size+1:=by omega
       have g3:¬ 9223372036854775807<2+sv.size+1+x.name.size:=by omega
       have g4:¬ 9223372036854775807<2+sv.size+1+x.name.size+2:=by omega
       clear htl3 hsv;apply ppP 3;apply ppP 4;apply ppP 7;apply ppP 8
       try simp only[pu]
       refine ang 9 (fun K hK=>?_);go_simp;refine hw6.out.mono ?_;rintro e w6 ⟨rfl,hP6,-,-⟩;refine hK.out _ _ nay ?_
       try simp only[pu]
       refine anf ?_ _;clear hS g1 g2 g3 g4 hP5 hY5;go_wp2;go_roundw
       case rel=>exact⟨k+1,by simp,by omega,hP6⟩
       case measure=>go_light;simp[intOf];omega
      ·--[IEND
       obtain rfl:k=t.items.length:=by omega
       have Hd:Hid ((t.items.drop t.items.length).flatMap iw++([125,10]++R)=bytes ⟨#[125,10]⟩++(b.drop (n+1)).flatMap bV):=by show _=_;rw[HR.out];simp[bytes]
       have hw3:=hidL (hP.write ⟨#[125,10]⟩ Hd.out (by have:=Hwl.out;rw[←Hwh.out] at this;omega));clear hk hkl;go_wp2_with fail;refine hw3.out.mono ?_;rintro e w3 ⟨rfl,hP3,-,-⟩;go_wp2;go_roundw
       case rel=>exact⟨n+1,by simp,by omega,hP3⟩
       case measure=>go_light;simp[intOf];omega
    | false =>
     rw[hen] at y1;have hmsg:=bq Hg.out Htm.out hen;have hw1:=hidL (hP1.write (⟨#[109,101,115,115,97,103,101,32]⟩++t.name++⟨#[32,123,10]⟩) (ahT hen R) (by have:=Hwl.out;rw[←Hwh.out] at this;omega));have hfl:t.fields.length≤5:=hmsg.1;have hgl:t.gone.length≤30:=hmsg.2.2.1;have Hmsg:=hidL hmsg;have Hen:=hidL hen;clear hmsg;go_wp2_with fail;refine hw1.out.mono ?_;rintro e w2 ⟨rfl,hP2,ho2,hs2⟩;have hY2:=ho2 _ _ _ (by decide) (show Y≠bb by omega) hY1;have y2':w2.cell? ⟨Y,2,none⟩=some (.slice A1 t.fields.length k1):=hY2.cell 2;rw[hen] at hY2;have yl':=hY2.lt;clear hY1 hP1 ho2 hs2 y0 y1 y2 y3 y4 yl;go_wp2_with fail;clear y2' yl';go_loopw [61] (fun i wr=>∃ k:Nat,i=O k∧k≤t.fields.length∧PSt w bb whole ((t.fields.drop k).flatMap fI++(gU t.gone++([125,10]++R))) wr∧Box wr Y 53 [.string t.name,.bool false,.slice A1 t.fields.length k1,.slice A2 t.gone.length k2,.slice A3 t.items.length k3]) (fun i _=>t.fields.length-(intOf i).toNat)
     case atStart=>exact⟨0,rfl,Nat.zero_le _,hP2,hY2⟩
     case round =>
      clear hP2 hY2;obtain⟨k,rfl,hk,hP,hY⟩:=hrel
      by_cases hkl:k<t.fields.length
      ·--[FLD
       have hkl':(k:Int)<(t.fields.length:Int):=by omega
       have hkz:(0:Int)≤(k:Int):=by omega
       have e2:IntKind.i64.wrap ((k:Int)+1)=(k:Int)+1:=IntWalk.i64_in _ (by omega);obtain⟨g2,o2,es2,rfl,hS2,hgw2,-,hre2,hc2⟩:=Hrf.out.at_ hkl;have hbl2:Below w.heap.size w wr:=hP.old;have hc2':=hc2.keep (az.of_below hbl2) hS2;have hgl2:g2<wr.heap.size:=Nat.lt_of_lt_of_le hgw2 hbl2.size;obtain⟨f,hf⟩:=exE (t.fields[k]);rw[←hf] at hre2;have he2:es2=aI f:=hre2;subst he2;have htl2:Hid ((t.fields.drop k).flatMap fI++(gU t.gone++([125,10]++R))=fI f++((t.fields.drop (k+1)).flatMap fI++(gU t.gone++([125,10]++R)))):=by
        show _=_;rw[List.drop_eq_getElem_cons hkl,List.flatMap_cons,←hf,List.append_assoc]
       rw[htl2.out] at hP;have hfm:f∈t.fields:=by rw[hf];exact List.getElem_mem hkl
       obtain⟨hnf,hi1,hi30,hk1,hk5,hr1,hr3,-⟩:=bC Hmsg.out hfm;have hkn:=JD Hg.out Htm.out Hen.out hfm;have hfn:f.name.size≤12:=lW hnf;obtain⟨kn,hkne⟩:=exE (kindName f);obtain⟨rn,hrne⟩:=exE (lC f);rw[←hkne] at hkn;have htl3:=ack f ((t.fields.drop (k+1)).flatMap fI++(gU t.gone++([125,10]++R)));rw[←hkne,←hrne] at htl3;obtain⟨fi,fn,ft,fk,fr⟩:=f;dsimp only at hi1 hi30 hk1 hk5 hr1 hr3 hfn htl3;obtain⟨kk,rfl⟩:∃ kk:Nat,fk=kk:=⟨fk.toNat,by omega⟩;obtain⟨rr,rfl⟩:∃ rr:Nat,fr=rr:=⟨fr.toNat,by omega⟩;obtain⟨⟨er,hbr⟩,⟨ek,hbk⟩⟩:=HL.out.below hbl2;have hrc:(DD.map Value.string)[rr]? = some (.string rn)∧rn.size≤5:=by
        rw[hrne];rcases(by omega:rr=1∨rr=2∨rr=3) with rfl | rfl | rfl
        ·exact⟨rfl,by show amT.size≤5;decide⟩
        ·exact⟨rfl,by show aji.size≤5;decide⟩
        ·exact⟨rfl,by show alp.size≤5;decide⟩
       have hrn:=hrc.2;have hkc:kk<4→(akz.map Value.string)[kk]? = some (.string kn):=by
        intro h4;rw[hkne];rcases(by omega:kk=1∨kk=2∨kk=3) with rfl | rfl | rfl
        ·rfl
        ·rfl
        ·rfl
       have hkt:¬ kk<4→kn=ft:=by
        intro h4;rw[hkne];unfold kindName;rw[if_neg (by show ¬ (kk:Int)<4;omega)]
       have r0:=hc2'.a0 rfl;have r1:=hc2'.at_ 1 rfl;have r2:=hc2'.at_ 2 rfl;have r3:=hc2'.at_ 3 rfl;have r4:=hc2'.at_ 4 rfl;have hbg2:bb<wr.heap.size:=by obtain⟨_,_,h,_⟩:=hP;exact h.lt.2
       have hP3:=hP.below ((Below.here wr).alloc (Nat.le_refl _) (.cells [O fi,.string fn,.string ft,O kk,O rr].toArray 55));have hY3:=Box.new wr 55 [O fi,.string fn,.string ft,O kk,O rr];have hYt:=hY.alloc (.cells [O fi,.string fn,.string ft,O kk,O rr].toArray 55);have hbr3:=hbr.alloc (.cells [O fi,.string fn,.string ft,O kk,O rr].toArray 55);have hbk3:=hbk.alloc (.cells [O fi,.string fn,.string ft,O kk,O rr].toArray 55);have hYY:Y<wr.heap.size:=hY.lt;clear hc2 hc2' hre2 hf hP hS2 hgw2 hbl2 hnf hY hbr hbk hfm hkne hrne;go_upto_region 21 with fail;clear r0 r1 r2 r3 r4 hgl2;generalize wr.heap.size=Y3 at hY3 hbg2 hYY ⊢;generalize (World.alloc wr _)=w3 at hP3 hY3 hYt hbr3 hbk3 ⊢;have d3:w3.cell? ⟨Y3,3,none⟩=some (O kk):=hY3.cell 3;have dl:=hY3.lt
       by_cases hk4:kk<4
       ·--[K1
        have hk4':(kk:Int)<4:=by omega
        have hkk0:(0:Int)≤(kk:Int):=by omega
        have kc:w3.cell? ⟨0,kk,none⟩=some (.string kn):=(hbk3.cell kk).trans (hkc hk4);have kl:=hbk3.lt;clear hkc hkt hk4;go_upto_region 23 with fail;clear d3 dl kc kl hk4' hkk0;have hS:(fun W'=>World.cell? W' ⟨Y3,0,none⟩=some (O fi)∧World.cell? W' ⟨Y3,1,none⟩=some (.string fn)∧World.cell? W' ⟨Y3,4,none⟩=some (O rr)∧World.cell? W' ⟨1,rr,none⟩=some (.string rn)) w3.drew:=⟨hY3.drew.cell 0,hY3.drew.cell 1,hY3.drew.cell 4,(hbr3.drew.cell rr).trans hrc.1⟩;have hPd:=hP3.below (au (Below.here w3));have hYd:=hY3.drew;have hYtd:=hYt.drew;have hbrd:=hbr3.drew;refine aJ (fun W'=>World.cell? W' ⟨Y3,0,none⟩=some (O fi)∧World.cell? W' ⟨Y3,1,none⟩=some (.string fn)∧World.cell? W' ⟨Y3,4,none⟩=some (O rr)∧World.cell? W' ⟨1,rr,none⟩=some (.string rn)) (fun i=>i != 18) (by kernel_rfl) ?_;clear hP3 hY3 hYt hbr3 hbk3;generalize w3.drew=Wd at hPd hYd hYtd hbrd hS ⊢;have hr3':(rr:Int)<4:=by omega
        have hr0':(0:Int)≤(rr:Int):=by omega
        apply ppP 0;apply tkP 1 hS;apply ppP 5;apply tkP 6 hS;apply ppP 7;apply tkP 8 hS;apply ppP 11;apply ppP 14;apply tkP 15 hS
        try simp only[pu]
        refine ang 2 (fun K hK=>?_);go_simp;refine(Rz fi (by omega) (by omega) Wd (HN.out.below hPd.old)).mono ?_;rintro e w5 ⟨rfl,hb5⟩;have hP5:=hPd.below hb5;have hY5:=hYtd.below hb5 hYtd.lt;have hZ5:=hYd.below hb5 hYd.lt;replace hS:(fun W'=>World.cell? W' ⟨Y3,0,none⟩=some (O fi)∧World.cell? W' ⟨Y3,1,none⟩=some (.string fn)∧World.cell? W' ⟨Y3,4,none⟩=some (O rr)∧World.cell? W' ⟨1,rr,none⟩=some (.string rn)) w5:=⟨hZ5.cell 0,hZ5.cell 1,hZ5.cell 4,((hbrd.below hb5 hbrd.lt).cell rr).trans hrc.1⟩;clear hPd hYd hYtd hb5 hbrd hZ5;refine hK.out _ _ (fun _ _=>hS) ?_
        try simp only[pu]
        have hsv:=wR (n:=fi) (by omega) (by omega);have hw6:=hidL (hP5.write _ htl3 (by have:=Hwl.out;rw[←Hwh.out] at this;omega));have Hrc:=hidL hrc;generalize Eb fi=sv at hsv hw6 ⊢;have g1:¬ 9223372036854775807<2+sv.size:=by omega
        have g2:¬ 9223372036854775807<2+sv.size+1:=by omega
        have g3:¬ 9223372036854775807<2+sv.size+1+rn.size:=by omega
        have g4:¬ 9223372036854775807<2+sv.size+1+rn.size+1:=by omega
        have g5:¬ 9223372036854775807<2+sv.size+1+rn.size+1+kn.size:=by omega
        have g6:¬ 9223372036854775807<2+sv.size+1+rn.size+1+kn.size+1:=by omega
        have g7:¬ 9223372036854775807<2+sv.size+1+rn.size+1+kn.size+1+fn.size:=by omega
        have g8:¬ 9223372036854775807<2+sv.size+1+rn.size+1+kn.size+1+fn.size+2:=by omega
        clear htl3 hsv hrc;apply ppP 3;apply ppP 4;apply ppP 9;apply ppP 10;apply ppP 12;apply ppP 13;apply ppP 16;apply ppP 17
        try simp only[pu]
        refine ang 18 (fun K hK=>?_);go_simp;refine hw6.out.mono ?_;rintro e w6 ⟨rfl,hP6,ho6,-⟩;refine hK.out _ _ nay ?_
        try simp only[pu]
        refine anf ?_ _;have hY6:=ho6 _ _ _ (by decide) (show Y≠bb by omega) hY5;clear hS g1 g2 g3 g4 g5 g6 g7 g8 hP5 hY5 ho6;go_wp2;go_roundw
        case rel=>exact⟨k+1,by simp,by omega,hP6,hY6⟩
        case measure=>go_light;simp[intOf];omega
       ·--[K2
        have hk4':¬ (kk:Int)<4:=by omega
        have hft:=hkt hk4;subst hft;clear hkc hkt hk4;go_upto_region 23 with fail;clear d3 dl hk4';have hS:(fun W'=>World.cell? W' ⟨Y3,0,none⟩=some (O fi)∧World.cell? W' ⟨Y3,1,none⟩=some (.string fn)∧World.cell? W' ⟨Y3,4,none⟩=some (O rr)∧World.cell? W' ⟨1,rr,none⟩=some (.string rn)) w3.drew:=⟨hY3.drew.cell 0,hY3.drew.cell 1,hY3.drew.cell 4,(hbr3.drew.cell rr).trans hrc.1⟩;have hPd:=hP3.below (au (Below.here w3));have hYd:=hY3.drew;have hYtd:=hYt.drew;have hbrd:=hbr3.drew;refine aJ (fun W'=>World.cell? W' ⟨Y3,0,none⟩=some (O fi)∧World.cell? W' ⟨Y3,1,none⟩=some (.string fn)∧World.cell? W' ⟨Y3,4,none⟩=some (O rr)∧World.cell? W' ⟨1,rr,none⟩=some (.string rn)) (fun i=>i != 18) (by kernel_rfl) ?_;clear hP3 hY3 hYt hbr3 hbk3;generalize w3.drew=Wd at hPd hYd hYtd hbrd hS ⊢;have hr3':(rr:Int)<4:=by omega
        have hr0':(0:Int)≤(rr:Int):=by omega
        apply ppP 0;apply tkP 1 hS;apply ppP 5;apply tkP 6 hS;apply ppP 7;apply tkP 8 hS;apply ppP 11;apply ppP 14;apply tkP 15 hS
        try simp only[pu]
        refine ang 2 (fun K hK=>?_);go_simp;refine(Rz fi (by omega) (by omega) Wd (HN.out.below hPd.old)).mono ?_;rintro e w5 ⟨rfl,hb5⟩;have hP5:=hPd.below hb5;have hY5:=hYtd.below hb5 hYtd.lt;have hZ5:=hYd.below hb5 hYd.lt;replace hS:(fun W'=>World.cell? W' ⟨Y3,0,none⟩=some (O fi)∧World.cell? W' ⟨Y3,1,none⟩=some (.string fn)∧World.cell? W' ⟨Y3,4,none⟩=some (O rr)∧World.cell? W' ⟨1,rr,none⟩=some (.string rn)) w5:=⟨hZ5.cell 0,hZ5.cell 1,hZ5.cell 4,((hbrd.below hb5 hbrd.lt).cell rr).trans hrc.1⟩;clear hPd hYd hYtd hb5 hbrd hZ5;refine hK.out _ _ (fun _ _=>hS) ?_
        try simp only[pu]
        have hsv:=wR (n:=fi) (by omega) (by omega);have hw6:=hidL (hP5.write _ htl3 (by have:=Hwl.out;rw[←Hwh.out] at this;omega));have Hrc:=hidL hrc;generalize Eb fi=sv at hsv hw6 ⊢;have g1:¬ 9223372036854775807<2+sv.size:=by omega
        have g2:¬ 9223372036854775807<2+sv.size+1:=by omega
        have g3:¬ 9223372036854775807<2+sv.size+1+rn.size:=by omega
        have g4:¬ 9223372036854775807<2+sv.size+1+rn.size+1:=by omega
        have g5:¬ 9223372036854775807<2+sv.size+1+rn.size+1+kn.size:=by omega
        have g6:¬ 9223372036854775807<2+sv.size+1+rn.size+1+kn.size+1:=by omega
        have g7:¬ 9223372036854775807<2+sv.size+1+rn.size+1+kn.size+1+fn.size:=by omega
        have g8:¬ 9223372036854775807<2+sv.size+1+rn.size+1+kn.size+1+fn.size+2:=by omega
        clear htl3 hsv hrc;apply ppP 3;apply ppP 4;apply ppP 9;apply ppP 10;apply ppP 12;apply ppP 13;apply ppP 16;apply ppP 17
        try simp only[pu]
        refine ang 18 (fun K hK=>?_);go_simp;refine hw6.out.mono ?_;rintro e w6 ⟨rfl,hP6,ho6,-⟩;refine hK.out _ _ nay ?_
        try simp only[pu]
        refine anf ?_ _;have hY6:=ho6 _ _ _ (by decide) (show Y≠bb by omega) hY5;clear hS g1 g2 g3 g4 g5 g6 g7 g8 hP5 hY5 ho6;go_wp2;go_roundw
        case rel=>exact⟨k+1,by simp,by omega,hP6,hY6⟩
        case measure=>go_light;simp[intOf];omega
      ·--[FEND
       obtain rfl:k=t.fields.length:=by omega
       have Hd:Hid ((t.fields.drop t.fields.length).flatMap fI++(gU t.gone++([125,10]++R))=gU t.gone++([125,10]++R)):=by show _=_;simp
       rw[Hd.out] at hP;have y3':wr.cell? ⟨Y,3,none⟩=some (.slice A2 t.gone.length k2):=hY.cell 3;have yl':=hY.lt;have hR2:=HR.out
       by_cases hg1:0<t.gone.length
       ·--[GONE
        have hg1':(0:Int)<(t.gone.length:Int):=by omega
        have Hpg:Hid (gU t.gone++([125,10]++R)=bytes ⟨#[32,32,103,111,110,101]⟩++(t.gone.flatMap (fun n=>32::Lib.itoa n)++([59,10]++([125,10]++R)))):=by
         show _=_;unfold gU;rw[if_neg (by omega)];simp[bytes]
        have hw3:=hidL (hP.write _ Hpg.out (by have:=Hwl.out;rw[←Hwh.out] at this;omega));clear hP hk hkl hg1 hR2;go_wp2_with fail;refine hw3.out.mono ?_;rintro e w3 ⟨rfl,hP3,ho3,-⟩;have hY3:=ho3 _ _ _ (by decide) (show Y≠bb by omega) hY;have y3'':w3.cell? ⟨Y,3,none⟩=some (.slice A2 t.gone.length k2):=hY3.cell 3;have yl'':=hY3.lt;clear y3' yl' hY hY3 ho3;go_wp2_with fail;clear y3'' yl'';go_loopw [102] (fun i wr=>∃ k:Nat,i=O k∧k≤t.gone.length∧PSt w bb whole ((t.gone.drop k).flatMap (fun n=>32::Lib.itoa n)++([59,10]++([125,10]++R))) wr) (fun i _=>t.gone.length-(intOf i).toNat)
        case atStart=>exact⟨0,rfl,Nat.zero_le _,hP3⟩
        case round =>
         clear hP3;obtain⟨k,rfl,hk,hP⟩:=hrel
         by_cases hkl:k<t.gone.length
         ·--[NUM
          have hkl':(k:Int)<(t.gone.length:Int):=by omega
          have hkz:(0:Int)≤(k:Int):=by omega
          have e2:IntKind.i64.wrap ((k:Int)+1)=(k:Int)+1:=IntWalk.i64_in _ (by omega);obtain⟨g2,o2,es2,rfl,hS2,hgw2,-,hre2,hc2⟩:=Hrg.out.at_ hkl;have hbl2:Below w.heap.size w wr:=hP.old;have hc2':=hc2.keep (az.of_below hbl2) hS2;have hgl2:g2<wr.heap.size:=Nat.lt_of_lt_of_le hgw2 hbl2.size;obtain⟨x,hx⟩:=exE (t.gone[k]);rw[←hx] at hre2;have he2:es2=[O x]:=hre2;subst he2;have r0:wr.cell? ⟨g2,o2+k,none⟩=some (O x):=by have:=hc2'.at_ 0 rfl;simpa using this
          have htl2:Hid ((t.gone.drop k).flatMap (fun n=>32::Lib.itoa n)++([59,10]++([125,10]++R))=bytes (⟨#[32]⟩++Eb x)++((t.gone.drop (k+1)).flatMap (fun n=>32::Lib.itoa n)++([59,10]++([125,10]++R)))):=by
           show _=_;rw[List.drop_eq_getElem_cons hkl,List.flatMap_cons,←hx];simp[bytes,Eb]
          have hxg:=Hmsg.out.2.2.2.1 k hkl;rw[←hx] at hxg;have hx1:1≤x:=hxg.2.1;have hx2:x≤30:=hxg.2.2.1;have hit:=hidL (Rz x (by omega) (by omega) wr (HN.out.below hbl2));have hsv:=wR (n:=x) (by omega) (by omega);clear hc2 hc2' hre2 hx hS2 hgw2 hbl2 hxg;go_wp2_with fail;refine hit.out.mono ?_;rintro e w4 ⟨rfl,hb4⟩;have hP4:=hP.below hb4;have hw6:=hidL (hP4.write _ htl2.out (by have:=Hwl.out;rw[←Hwh.out] at this;omega));clear r0 hgl2 hP hb4;go_wp2_with fail;refine hw6.out.mono ?_;rintro e w6 ⟨rfl,hP6,-,-⟩;go_wp2;go_roundw
          case rel=>exact⟨k+1,by simp,by omega,hP6⟩
          case measure=>go_light;simp[intOf];omega
         ·--[NEND
          obtain rfl:k=t.gone.length:=by omega
          have Hd2:Hid ((t.gone.drop t.gone.length).flatMap (fun n=>32::Lib.itoa n)++([59,10]++([125,10]++R))=bytes ⟨#[59,10]⟩++([125,10]++R)):=by show _=_;simp[bytes]
          have hw7:=hidL (hP.write _ Hd2.out (by have:=Hwl.out;rw[←Hwh.out] at this;omega));clear hP hk hkl;go_wp2_with fail;refine hw7.out.mono ?_;rintro e w7 ⟨rfl,hP7,-,-⟩;have Hde:Hid ([125,10]++R=bytes ⟨#[125,10]⟩++(b.drop (n+1)).flatMap bV):=by show _=_;rw[HR.out]
          have hw8:=hidL (hP7.write _ Hde.out (by have:=Hwl.out;rw[←Hwh.out] at this;omega));clear hP7;go_wp2_with fail;refine hw8.out.mono ?_;rintro e w8 ⟨rfl,hP8,-,-⟩;go_wp2;go_roundw
          case rel=>exact⟨n+1,by simp,by omega,hP8⟩
          case measure=>go_light;simp[intOf];omega
       ·--[NONE
        have hg0:t.gone.length=0:=by omega
        have hg1':¬ (0:Int)<(t.gone.length:Int):=by omega
        have Hpg:Hid (gU t.gone++([125,10]++R)=[125,10]++R):=by
         show _=_;unfold gU;rw[if_pos hg0];rfl
        rw[Hpg.out] at hP;clear hk hkl hg1 hR2 hg0 hY;have Hde:Hid ([125,10]++R=bytes ⟨#[125,10]⟩++(b.drop (n+1)).flatMap bV):=by show _=_;rw[HR.out]
        have hw8:=hidL (hP.write _ Hde.out (by have:=Hwl.out;rw[←Hwh.out] at this;omega));clear hP;go_wp2_with fail;refine hw8.out.mono ?_;rintro e w8 ⟨rfl,hP8,-,-⟩;go_wp2;go_roundw
        case rel=>exact⟨n+1,by simp,by omega,hP8⟩
        case measure=>go_light;simp[intOf];omega
   ·--[END
    obtain rfl:n=b.length:=by omega
    have Hd:Hid ((b.drop b.length).flatMap bV=[]):=by show _=_;simp
    obtain⟨lz,hl1,hl2,hl3⟩:=hP;rw[Hd.out,List.append_nil] at hl1;have hst:=hidL (Rp _ bb lz wr hl2 hl3.size);have Hl3:=hidL hl3;have Hlz:=hidL hl1;clear hl1 hl2 hl3 hn hlt;go_wp2_with fail;refine hst.out.mono ?_;rintro e w5 ⟨rfl,hb5⟩;go_wp2_with fail
    go_ret2
    exact⟨by rw[He.out,←Hwh.out,←Hlz.out];rfl,Hl3.out.trans hb5⟩
 ·--[BAD
  have He:Hid (p=([],ge)):=by show _=_;rw[Hp.out,pU,←Hge.out,if_pos hg0]
  clear hZ1;go_wp2_with fail
  go_ret2
  exact⟨by rw[He.out];rfl,hG1⟩
end Go.Proofs.YtknnhpkjgnkcdaaGreatDoor
