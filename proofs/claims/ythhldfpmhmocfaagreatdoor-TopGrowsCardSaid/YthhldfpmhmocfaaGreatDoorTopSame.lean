/- The walks of the statements' own comparisons, at what is alike: sameNumbers, sameBook, sameCommits, sameRefs, same, sameReply; and of quiet. -/
import Derived.Test.YthhldfpmhmocfaaGreatDoorMsame
import Derived.Test.YthhldfpmhmocfaaGreatDoorTopLikg
set_option linter.all false
set_option maxRecDepth 100000
set_option maxHeartbeats 8000000
namespace Go.Proofs.YthhldfpmhmocfaaGreatDoor
open Go.Proofs.Tryz
open Go.RowKit
theorem afE (S S':Nat→Prop)(v v':Value)(b:av)(w:World)(h1:RSl 5 96 ah S w [v] b)(h2:RSl 5 96 ah S' w [v'] b):Calls prog 34 #[.agg #[v],.agg #[v']] w (Ret w (.bool true)):=by
 obtain⟨A,d1,rfl,hlc,hlb⟩:=h1.form;obtain⟨A',d2,rfl,hlc',hlb'⟩:=h2.form;obtain⟨x1,x2,x3⟩:=bY w [.slice A b.length d1] [.slice A' b.length d2] 48 48;have HC:=hidL (Hu S S' _ _ b _ ((RSl.fair ah.fair).below h1 x3) ((RSl.fair ah.fair).below h2 x3));clear h1 h2;go_enter func34,ntmps34;go_wp2_with fail;refine HC.out.mono ?_;rintro e w1 ⟨rfl,hb⟩;have hb1:=aa x3 hb x3.size;clear HC x1 x2 x3 hb;go_wp2_with fail;go_ret;exact⟨rfl,hb1⟩
theorem aef (S S':Nat→Prop)(v v':Value)(l:List fD)(w:World)(hl:RSl 2 48 dw S w [v] l)(hl':RSl 2 48 dw S' w [v'] l):Calls prog 29 #[v,v'] w (Ret w (.bool true)):=by
 obtain⟨A,cap,rfl,hlc,hlb⟩:=hl.form;obtain⟨A',cap',rfl,hlc',hlb'⟩:=hl'.form;have HL:=hidL hl;have HL':=hidL hl';clear hl hl';go_enter func29,ntmps29;go_wp2_with fail;go_loopw [13] (fun i wr=>∃ k:Nat,i=.int .i64 k∧k≤l.length∧Below w.heap.size w wr) (fun i _=>l.length-(intOf i).toNat)
 case atStart=>exact⟨0,rfl,by omega,Below.refl _ _⟩
 case round =>
  obtain⟨k,rfl,hk,hb⟩:=hrel
  by_cases hlt:k<l.length
  ·obtain⟨g,o,es,rfl,hS,hg,hes,hr,hc⟩:=((RSl.fair dw.fair).below HL.out hb).at_ hlt;obtain⟨g',o',es',rfl,hS',hg',hes',hr',hc'⟩:=((RSl.fair dw.fair).below HL'.out hb).at_ hlt;obtain⟨p,hpe⟩:=exE (l[k]);rw[←hpe] at hr hr';clear hpe;obtain⟨vb,vp,rfl,hB,hP⟩:=hr;obtain⟨vb',vp',rfl,hB',hP'⟩:=hr';obtain⟨B1,b1,rfl,-,-⟩:=hB.form;obtain⟨B2,b2,rfl,-,-⟩:=hB'.form;obtain⟨P1,p1,rfl,-,-⟩:=hP.form;obtain⟨P2,p2,rfl,-,-⟩:=hP'.form;have hlk:(k:Int)<l.length:=by omega
   have HS:=hidL (fun W (h:Below wr.heap.size wr W)=>show (fun W'=>World.cell? W' ⟨g,o+k*2,none⟩=some (.slice B1 p.book.length b1)∧World.cell? W' ⟨g,o+k*2+1,none⟩=some (.slice P1 p.parents.length p1)∧World.cell? W' ⟨g',o'+k*2,none⟩=some (.slice B2 p.book.length b2)∧World.cell? W' ⟨g',o'+k*2+1,none⟩=some (.slice P2 p.parents.length p2)) W from⟨(h.cell (p:=⟨g,o+k*2,none⟩) hg).trans (hc.at_ 0 rfl),(h.cell (p:=⟨g,o+k*2+1,none⟩) hg).trans (hc.at_ 1 rfl),(h.cell (p:=⟨g',o'+k*2,none⟩) hg').trans (hc'.at_ 0 rfl),(h.cell (p:=⟨g',o'+k*2+1,none⟩) hg').trans (hc'.at_ 1 rfl)⟩);have HB:=hidL (fun W (h:Below wr.heap.size wr W)=>afE S S' _ _ p.book W ((RSl.fair ah.fair).below hB h) ((RSl.fair ah.fair).below hB' h));have HP:=hidL (fun W (h:Below wr.heap.size wr W)=>ahu S S' _ _ p.parents W ((RSl.fair aQ.fair).below hP h) ((RSl.fair aQ.fair).below hP' h));clear hc hc' hes hes' hg hg' hS hS' hB hB' hP hP';go_upto_region 6 with fail;have hw:=au (Below.refl wr.heap.size wr);have hS:=HS.out _ hw;refine aJ (fun W'=>World.cell? W' ⟨g,o+k*2,none⟩=some (.slice B1 p.book.length b1)∧World.cell? W' ⟨g,o+k*2+1,none⟩=some (.slice P1 p.parents.length p1)∧World.cell? W' ⟨g',o'+k*2,none⟩=some (.slice B2 p.book.length b2)∧World.cell? W' ⟨g',o'+k*2+1,none⟩=some (.slice P2 p.parents.length p2)) (fun _=>true) (by kernel_rfl) ?_;generalize wr.drew=Wd at hw hS ⊢;refine ppP 0 ?_;refine ppP 1 ?_;refine ppP 2 ?_;refine ppP 3 ?_;refine tkP 4 hS ?_;refine ppP 5 ?_;refine ppP 6 ?_;refine ppP 7 ?_;refine ppP 8 ?_;refine tkP 9 hS ?_
   try simp only[pu]
   refine ang 10 (fun K hK=>?_);go_simp;refine(HB.out _ hw).mono ?_;rintro e w5 ⟨rfl,hb5⟩;replace hw:=aa hw hb5 hw.size;replace hS:=HS.out _ hw;clear hb5;refine hK.out _ _ (fun _ _=>hS) ?_;clear hK K
   try simp only[pu]
   refine ppP 11 ?_;refine ppP 12 ?_;refine ppP 13 ?_;refine ppP 14 ?_;refine ppP 15 ?_;refine ppP 16 ?_;refine tkP 17 hS ?_;refine ppP 18 ?_;refine ppP 19 ?_;refine ppP 20 ?_;refine ppP 21 ?_;refine tkP 22 hS ?_
   try simp only[pu]
   refine ang 23 (fun K hK=>?_);go_simp;refine(HP.out _ hw).mono ?_;rintro e w6 ⟨rfl,hb6⟩;replace hw:=aa hw hb6 hw.size;replace hS:=HS.out _ hw;clear hb6;refine hK.out _ _ (fun _ _=>hS) ?_;clear hK K
   try simp only[pu]
   refine ppP 24 ?_;refine ppP 25 ?_
   try simp only[pu]
   refine anf ?_ _;have hb9:=aa hb hw hb.size;clear hw hS HS HB HP;go_wp2_with fail;go_roundw
   case rel=>exact⟨k+1,by go_num,by omega,hb9⟩
   case measure=>simp[intOf];omega
  ·go_wp2_with fail;go_ret;exact⟨rfl,hb⟩
end Go.Proofs.YthhldfpmhmocfaaGreatDoor
