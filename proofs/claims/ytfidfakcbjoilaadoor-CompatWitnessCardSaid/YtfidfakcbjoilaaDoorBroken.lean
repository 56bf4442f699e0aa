/- The walk of compat.broken (under way). -/
import Derived.Test.YtfidfakcbjoilaaDoorWrapped
import Derived.Test.YtfidfakcbjoilaaDoorLeastOfV
import Derived.Test.YtfidfakcbjoilaaDoorLacks
set_option linter.all false
set_option maxRecDepth 100000
set_option maxHeartbeats 8000000
namespace Go.Proofs.YtfidfakcbjoilaaDoor
open Go.RowKit
theorem boxes5 (w : World) (a b c d e : List Value) (ta tb tc td te : TypeId) : Box (((((w.alloc (.cells a.toArray ta)).alloc (.cells b.toArray tb)).alloc (.cells c.toArray tc)).alloc (.cells d.toArray td)).alloc (.cells e.toArray te)) w.heap.size ta a ∧ Box (((((w.alloc (.cells a.toArray ta)).alloc (.cells b.toArray tb)).alloc (.cells c.toArray tc)).alloc (.cells d.toArray td)).alloc (.cells e.toArray te)) (w.heap.size + 1) tb b ∧
  Box (((((w.alloc (.cells a.toArray ta)).alloc (.cells b.toArray tb)).alloc (.cells c.toArray tc)).alloc (.cells d.toArray td)).alloc (.cells e.toArray te)) (w.heap.size + 1 + 1) tc c ∧ Box (((((w.alloc (.cells a.toArray ta)).alloc (.cells b.toArray tb)).alloc (.cells c.toArray tc)).alloc (.cells d.toArray td)).alloc (.cells e.toArray te)) (w.heap.size + 1 + 1 + 1) td d ∧
  Box (((((w.alloc (.cells a.toArray ta)).alloc (.cells b.toArray tb)).alloc (.cells c.toArray tc)).alloc (.cells d.toArray td)).alloc (.cells e.toArray te)) (w.heap.size + 1 + 1 + 1 + 1) te e ∧ Below w.heap.size w (((((w.alloc (.cells a.toArray ta)).alloc (.cells b.toArray tb)).alloc (.cells c.toArray tc)).alloc (.cells d.toArray td)).alloc (.cells e.toArray te)) := by
 obtain ⟨h1, h2, h3, h4, h5⟩ := boxes4 w a b c d ta tb tc td
 refine ⟨h1.alloc _, h2.alloc _, h3.alloc _, h4.alloc _, ?_, h5.alloc h5.size _⟩
 have := Box.new ((((w.alloc (.cells a.toArray ta)).alloc (.cells b.toArray tb)).alloc (.cells c.toArray tc)).alloc (.cells d.toArray td)) te e
 simpa using this
theorem Own.oneT {α : Type} {base e sz : Nat} {R : Rel α} {T : Nat → Prop} {w : World} {g : Nat} {cs : List Value} {x : α} (hb : Box w g e cs) (hg : base ≤ g) (hl : cs.length = sz) (ht : ¬ T g) (hr : R T w cs x) : Own base e sz R T w (.slice (some ⟨g, 0, none⟩) 1 1) [x] := by
 refine ⟨[cs], ⟨by simp [hl], .inr ⟨g, 1, cs.toArray, rfl, hg, hb, Nat.le_refl _, by decide, by simp [hl], by simpa using List.take_of_length_le (Nat.le_of_eq hl)⟩⟩, rfl, fun k hk h => ?_, fun k y c hy hc => ?_⟩
 ·have : k = g := (Option.some.inj hk).symm
  exact ht (this ▸ h)
 ·cases k with
  | zero => simp at hy hc; subst hy hc; exact ⟨hl, hr⟩
  | succ k => simp at hy
theorem broken_results {W : World} {a : Act} {g : Nat} {c0 c1 c2 c3 c4 : Value} (hb : Box W g 28 [c0, c1, c2, c3, c4]) (h4 : a.tmps.getD 12 undef = .pointer (some ⟨g, 0, none⟩)) :
  (results Tryd.f32 a.tmps).run Tryd.prog W = .ok (.agg #[c0, c1, c2, c3, c4]) W := by
 obtain ⟨e0, e1, e2, e3, e4⟩ := hb.five
 simp only [Array.getD_eq_getD_getElem?] at h4
 simp [results, Tryd.results32, go_sem, h4, e0, e1, e2, e3, e4]
theorem broken_after {w W w5 : World} {cs zs : List Value} {x : ValueD} {t : TypeId} (hw : Below w.heap.size w W) (hl : w.heap.size + 1 + 1 + 1 + 1 < W.heap.size) (hb : Below W.heap.size W w5) (z5 : Box w5 (w.heap.size + 1 + 1 + 1 + 1) t cs) {ds : List Value} (h : RVal (Un (fun y => w.heap.size + 1 + 1 + 1 + 1 + 1 ≤ y) W) w5 ds x) (hz : zs.length = cs.length) :
  Box (setCells w5 (w.heap.size + 1 + 1 + 1 + 1) 0 zs) (w.heap.size + 1 + 1 + 1 + 1) t zs ∧ RVal (New w) (setCells w5 (w.heap.size + 1 + 1 + 1 + 1) 0 zs) ds x ∧ Below w.heap.size w (setCells w5 (w.heap.size + 1 + 1 + 1 + 1) 0 zs) :=
 ⟨z5.setCells zs hz, RVal.fair.mono (RVal.fair.keep h (Keep.setCells (g := w.heap.size + 1 + 1 + 1 + 1) (by
  intro h
  rcases h with h | h
  ·have : w.heap.size + 1 + 1 + 1 + 1 + 1 ≤ w.heap.size + 1 + 1 + 1 + 1 := h
   omega
  ·have : W.heap.size ≤ w.heap.size + 1 + 1 + 1 + 1 := h
   omega) zs 0 w5)) (fun y hy _ => by
  show w.heap.size ≤ y
  rcases hy with h | h
  ·have : w.heap.size + 1 + 1 + 1 + 1 + 1 ≤ y := h
   omega
  ·have : W.heap.size ≤ y := h
   omega), below_setCells (by omega) zs 0 _ (below_via hw hb hw.size)⟩
theorem of_one {w W : World} {X : Nat} {cs : List Value} {x : ValueD} (h : Box W (X + 1) 28 cs) (hr : RVal (fun y => w.heap.size + 1 + 1 + 1 + 1 + 1 ≤ y ∧ y < X) W cs x) (hs : w.heap.size + 1 + 1 + 1 + 1 < X) (hc : cs.length = 5 := by rfl) : RSl 5 80 RVal (fun y => w.heap.size + 1 + 1 + 1 + 1 + 1 ≤ y) W [.slice (some ⟨X + 1, 0, none⟩) 1 1] [x] :=
 RSl.of_box (css := [cs]) (xs := [x]) (by simpa using h) rfl (show (fun y => w.heap.size + 1 + 1 + 1 + 1 + 1 ≤ y) (X + 1) by show w.heap.size + 1 + 1 + 1 + 1 + 1 ≤ X + 1; omega) (by simp) (by simp) (by
  intro k y ds hx hd
  cases k with
  | zero =>
   have e1 : x = y := by simpa using hx
   have e2 : cs = ds := by simpa using hd
   subst e1 e2
   exact ⟨hc, RVal.fair.mono hr (fun y hy _ => hy.1)⟩
  | succ k => simp at hx)
theorem broken_put {w W w5 : World} {X : Nat} {tB tF tV tY : TypeId} {cB cF cV cY zs : List Value} (hw : Below w.heap.size w W) (hs : w.heap.size + 1 + 1 + 1 + 1 < X) (v1 : Box W w.heap.size tB cB) (v3 : Box W (w.heap.size + 1 + 1) tF cF) (v5 : Box W (w.heap.size + 1 + 1 + 1 + 1) tV cV) (hY : Box W (X + 1) tY cY) (hb : Below W.heap.size W w5) (hz : zs.length = cY.length) :
  Box (setCells w5 (X + 1) 0 zs) (X + 1) tY zs ∧ Box (setCells w5 (X + 1) 0 zs) w.heap.size tB cB ∧ Box (setCells w5 (X + 1) 0 zs) (w.heap.size + 1 + 1) tF cF ∧ Box (setCells w5 (X + 1) 0 zs) (w.heap.size + 1 + 1 + 1 + 1) tV cV ∧ Below w.heap.size w (setCells w5 (X + 1) 0 zs) :=
 ⟨(hY.below hb hY.lt).setCells zs hz, Box.farCells (by omega) _ _ (v1.below hb v1.lt), Box.farCells (by omega) _ _ (v3.below hb v3.lt), Box.farCells (by omega) _ _ (v5.below hb v5.lt), below_setCells (by omega) zs 0 _ (below_via hw hb hw.size)⟩
theorem of_leaf {w W : World} {X : Nat} {k : Int} (h : Box W (X + 1) 28 [.int .i64 0, .int .i64 k, .string ⟨#[]⟩, .slice none 0 0, .slice none 0 0]) (hs : w.heap.size + 1 + 1 + 1 + 1 < X) : RSl 5 80 RVal (fun y => w.heap.size + 1 + 1 + 1 + 1 + 1 ≤ y) W [.slice (some ⟨X + 1, 0, none⟩) 1 1] [.mk 0 k ⟨#[]⟩ [] []] :=
 of_one h (RVal.plain 0 k ⟨#[]⟩) hs
theorem broken_grown {w W w7 : World} {X : Nat} {tB tF tV : TypeId} {cB cF cV : List Value} {o : Obj} {v : Value} {xs : List ValueD} (hv : Box W w.heap.size tB cB ∧ Box W (w.heap.size + 1 + 1) tF cF ∧ Box W (w.heap.size + 1 + 1 + 1 + 1) tV cV ∧ Below w.heap.size w W) (hs : w.heap.size + 1 + 1 + 1 + 1 < X) (hg : (W.alloc o).grownBy w7 (some (X + 1)))
  (hO : Own (w.heap.size + 1 + 1 + 1 + 1 + 1) 28 5 RVal (fun y => w.heap.size + 1 + 1 + 1 + 1 + 1 ≤ y ∧ y < X) w7 v xs) (hn : xs.length ≤ 2) :
  ∃ (A : Option Addr) (cap : Nat), v = .slice A xs.length cap ∧ xs.length ≤ 2 ∧ RSl 5 80 RVal (fun y => w.heap.size + 1 + 1 + 1 + 1 + 1 ≤ y) w7 [.slice A xs.length cap] xs ∧ Box w7 w.heap.size tB cB ∧ Box w7 (w.heap.size + 1 + 1) tF cF ∧ Box w7 (w.heap.size + 1 + 1 + 1 + 1) tV cV ∧ Below w.heap.size w w7 := by
 have hr := hO.read RVal.fair (S := (fun y => w.heap.size + 1 + 1 + 1 + 1 + 1 ≤ y)) (by_ := 80) (fun g h _ => h.1) (fun k hk => (hO.lt hk).1) (by omega)
 obtain ⟨A, cap, rfl, _⟩ := hO.form
 obtain ⟨h1, h3, h5, hw⟩ := hv
 exact ⟨A, cap, rfl, hn, hr, (h1.alloc o).grown hg (fun e => by have := Option.some.inj e; omega), (h3.alloc o).grown hg (fun e => by have := Option.some.inj e; omega), (h5.alloc o).grown hg (fun e => by have := Option.some.inj e; omega),
  below_grown (hw.alloc hw.size o) hg (by rw [World.size_alloc]; exact Nat.le_succ_of_le hw.size) (fun g h => by have := Option.some.inj h; omega)⟩
theorem least_known {b : BookD} {name : ByteArray} {id : Int} {f : FieldD} (hg : goodF b = 0) (hf : fieldOf (typeOf b name) id = some f) : LeastFieldF b name id = (leastOfF b 4 f, 0) := by
 unfold LeastFieldF
 rw [if_neg (by rw [hg]; decide), hf]
 rfl
theorem broken_any (S S2 : Nat → Prop) (vw vr : Value) (bw br : BookD) (hg : goodF bw = 0) (hBk : BookOk bw) (name : ByteArray) (hno : noneB bw name = false) (fi fk fr gi gk gr : Int) (fn ft gn gt : ByteArray) (hf : fieldOf (typeOf bw name) fi = some ⟨fi, fn, ft, fk, fr⟩)
  (why : Int) (w : World) (hW : Words w) (hb1 : RSl 5 96 RType S w [vw] bw) (hb2 : RSl 5 96 RType S2 w [vr] br) :
  Calls Tryd.prog 32 #[.agg #[vw], .agg #[vr], .string name, .agg #[.int .i64 fi, .string fn, .string ft, .int .i64 fk, .int .i64 fr], .agg #[.int .i64 gi, .string gn, .string gt, .int .i64 gk, .int .i64 gr], .int .i64 why] w (ValPost w (withF bw (typeOf bw name) fi (brokenL bw br ⟨fi, fn, ft, fk, fr⟩ ⟨gi, gn, gt, gk, gr⟩ why))) := by
 obtain ⟨AW, cw, rfl, -, -⟩ := hb1.form
 obtain ⟨AR, cr, rfl, -, -⟩ := hb2.form
 have hlk := least_known hg hf
 obtain ⟨L, hL⟩ : ∃ L, L = brokenL bw br ⟨fi, fn, ft, fk, fr⟩ ⟨gi, gn, gt, gk, gr⟩ why := ⟨_, rfl⟩
 rw [← hL]
 obtain ⟨R, hR⟩ : ∃ R, R = withF bw (typeOf bw name) fi L := ⟨_, rfl⟩
 rw [← hR]
 have HR := Lib.hid hR.symm
 clear hR
 unfold brokenL at hL
 obtain ⟨lv, hlv⟩ : ∃ x, x = leastOfF bw 4 ⟨fi, fn, ft, fk, fr⟩ := ⟨_, rfl⟩
 rw [← hlv] at hL hlk
 obtain ⟨lk, ln, ls, li, ll⟩ := lv
 have HL := Lib.hid hL
 have hls := Lib.hid (fun W (h : Below w.heap.size w W) => vLeastOf_any S _ bw name fi W ((RSl.fair RType.fair).below hb1 h) (hW.below h) hBk)
 have hlc := Lib.hid (fun W (h : Below w.heap.size w W) => lacks_any (Old w) _ _ bw br fi fk fr gi gk gr fn ft gn gt W ((RSl.fair RType.fair).below ((RSl.fair RType.fair).old hb1) h) ((RSl.fair RType.fair).below ((RSl.fair RType.fair).old hb2) h))
 have hwt := Lib.hid (fun W (h : Below w.heap.size w W) => fun (SL : Nat → Prop) (A : Option Addr) (cap : Nat) (l : List ValueD) (hl : RSl 5 80 RVal SL W [.slice A l.length cap] l) (hn : l.length ≤ 500) => with_any S SL _ bw hg hBk name hno fi A cap l W ((RSl.fair RType.fair).below hb1 h) (hW.below h) hl hn)
 obtain ⟨x1, x2, x3, x4, x5, x6⟩ := boxes5 w [.slice AW bw.length cw] [.slice AR br.length cr] [.int .i64 fi, .string fn, .string ft, .int .i64 fk, .int .i64 fr] [.int .i64 gi, .string gn, .string gt, .int .i64 gk, .int .i64 gr] [.int .i64 0, .int .i64 0, .string ⟨#[]⟩, .slice none 0 0, .slice none 0 0] 24 24 56 56 28
 have hcl := hls.out _ x6
 rw [hlk] at hcl
 have z1 := x1.cell 0
 have l1 := x1.lt
 have z3 := x3.cell 0
 have l3 := x3.lt
 have Hcl := Lib.hid hcl
 clear hlk hb1 hb2 hW hBk hg hno hf hcl hls hL hlv
 go_enter Tryd.func32, Tryd.ntmps32
 go_wp2_with fail
 refine Hcl.out.mono ?_
 rintro e w1 ⟨cs, rfl, hrv, hb1⟩
 obtain ⟨D1, d1, D2, d2, rfl, -, -⟩ := hrv.parts
 have y1 := x1.below hb1 x1.lt
 have y2 := x2.below hb1 x2.lt
 have y3 := x3.below hb1 x3.lt
 have y4 := x4.below hb1 x4.lt
 have y5 := x5.below hb1 x5.lt
 have hw1 := below_via x6 hb1 x6.size
 have hsz : w.heap.size + 1 + 1 + 1 + 1 < w1.heap.size := y5.lt
 have hrn : RVal (fun y => w.heap.size + 1 + 1 + 1 + 1 + 1 ≤ y ∧ y < w1.heap.size) w1 [.int .i64 lk, .int .i64 ln, .string ls, .slice D1 li.length d1, .slice D2 ll.length d2] (.mk lk ln ls li ll) := RVal.fair.mono hrv (fun y hy hl => ⟨by simpa [New] using hy, hl⟩)
 clear hrv x1 x2 x3 x4 x5 x6 hb1 z1 l1 z3 l3 Hcl
 go_upto_region 2 with fail
 have u0 := Box.new w1 28 [.int .i64 lk, .int .i64 ln, .string ls, .slice D1 li.length d1, .slice D2 ll.length d2]
 have hX : Box ((w1.alloc (.cells [.int .i64 lk, .int .i64 ln, .string ls, .slice D1 li.length d1, .slice D2 ll.length d2].toArray 28)).alloc (.cells [.int .i64 lk, .int .i64 ln, .string ls, .slice D1 li.length d1, .slice D2 ll.length d2].toArray 28)) w1.heap.size 28 [.int .i64 lk, .int .i64 ln, .string ls, .slice D1 li.length d1, .slice D2 ll.length d2] := u0.alloc _
 have hY : Box ((w1.alloc (.cells [.int .i64 lk, .int .i64 ln, .string ls, .slice D1 li.length d1, .slice D2 ll.length d2].toArray 28)).alloc (.cells [.int .i64 lk, .int .i64 ln, .string ls, .slice D1 li.length d1, .slice D2 ll.length d2].toArray 28)) (w1.heap.size + 1) 28 [.int .i64 lk, .int .i64 ln, .string ls, .slice D1 li.length d1, .slice D2 ll.length d2] := by simpa using Box.new (w1.alloc (.cells [.int .i64 lk, .int .i64 ln, .string ls, .slice D1 li.length d1, .slice D2 ll.length d2].toArray 28)) 28 [.int .i64 lk, .int .i64 ln, .string ls, .slice D1 li.length d1, .slice D2 ll.length d2]
 have v1 := (y1.alloc (.cells [.int .i64 lk, .int .i64 ln, .string ls, .slice D1 li.length d1, .slice D2 ll.length d2].toArray 28)).alloc (.cells [.int .i64 lk, .int .i64 ln, .string ls, .slice D1 li.length d1, .slice D2 ll.length d2].toArray 28)
 have v2 := (y2.alloc (.cells [.int .i64 lk, .int .i64 ln, .string ls, .slice D1 li.length d1, .slice D2 ll.length d2].toArray 28)).alloc (.cells [.int .i64 lk, .int .i64 ln, .string ls, .slice D1 li.length d1, .slice D2 ll.length d2].toArray 28)
 have v3 := (y3.alloc (.cells [.int .i64 lk, .int .i64 ln, .string ls, .slice D1 li.length d1, .slice D2 ll.length d2].toArray 28)).alloc (.cells [.int .i64 lk, .int .i64 ln, .string ls, .slice D1 li.length d1, .slice D2 ll.length d2].toArray 28)
 have v4 := (y4.alloc (.cells [.int .i64 lk, .int .i64 ln, .string ls, .slice D1 li.length d1, .slice D2 ll.length d2].toArray 28)).alloc (.cells [.int .i64 lk, .int .i64 ln, .string ls, .slice D1 li.length d1, .slice D2 ll.length d2].toArray 28)
 have v5 := (y5.alloc (.cells [.int .i64 lk, .int .i64 ln, .string ls, .slice D1 li.length d1, .slice D2 ll.length d2].toArray 28)).alloc (.cells [.int .i64 lk, .int .i64 ln, .string ls, .slice D1 li.length d1, .slice D2 ll.length d2].toArray 28)
 have hw3 := (hw1.alloc hw1.size (.cells [.int .i64 lk, .int .i64 ln, .string ls, .slice D1 li.length d1, .slice D2 ll.length d2].toArray 28)).alloc (by simp; omega) (.cells [.int .i64 lk, .int .i64 ln, .string ls, .slice D1 li.length d1, .slice D2 ll.length d2].toArray 28)
 have hr3 := RVal.fair.keep (RVal.fair.keep hrn (Keep.alloc _ w1 (.cells [.int .i64 lk, .int .i64 ln, .string ls, .slice D1 li.length d1, .slice D2 ll.length d2].toArray 28))) (Keep.alloc _ _ (.cells [.int .i64 lk, .int .i64 ln, .string ls, .slice D1 li.length d1, .slice D2 ll.length d2].toArray 28))
 obtain ⟨e0, e1, e2, e3, e4⟩ := u0.five
 clear y1 y2 y3 y4 y5 hrn
 go_upto_block 0 with fail
 clear u0 e0 e1 e2 e3 e4
 generalize World.alloc (w1.alloc _) _ = W3 at hX hY v1 v2 v3 v4 v5 hw3 hr3 ⊢
 generalize w1.heap.size = X at hX hY hr3 hsz ⊢
 have Hhw := Lib.hid hw1
 clear hw1
 go_cut [15, 16, 17] from 29 to 48 (fun q _q6 _q7 W => ∃ (A : Option Addr) (cap : Nat), q = .slice A L.length cap ∧ L.length ≤ 2 ∧ RSl 5 80 RVal (fun y => w.heap.size + 1 + 1 + 1 + 1 + 1 ≤ y) W [.slice A L.length cap] L ∧ Box W w.heap.size 24 [.slice AW bw.length cw] ∧ Box W (w.heap.size + 1 + 1) 56 [.int .i64 fi, .string fn, .string ft, .int .i64 fk, .int .i64 fr] ∧ Box W (w.heap.size + 1 + 1 + 1 + 1) 28 [.int .i64 0, .int .i64 0, .string ⟨#[]⟩, .slice none 0 0, .slice none 0 0] ∧ Below w.heap.size w W)
 case first =>
  by_cases h2 : why = 2
  ·--[A2
   have hb2 : (why == 2) = true := by simpa using h2
   have hLe : L = [.mk lk ln ls li ll] ++ [.mk lk ln ls li ll] := by rw [HL.out, if_pos h2]; rfl
   have Hle := Lib.hid hLe
   obtain ⟨e0, e1, e2, e3, e4⟩ := hX.five
   have lX := hX.lt
   have hO := Own.oneT (e := 28) (sz := 5) (base := w.heap.size + 1 + 1 + 1 + 1 + 1) hY (by omega) rfl (fun h => by have := h.2; omega) hr3
   have hO' := hO.alloc RVal.fair (.cells [.int .i64 lk, .int .i64 ln, .string ls, .slice D1 li.length d1, .slice D2 ll.length d2].toArray 28)
   have hr' := RVal.fair.keep hr3 (Keep.alloc _ W3 (.cells [.int .i64 lk, .int .i64 ln, .string ls, .slice D1 li.length d1, .slice D2 ll.length d2].toArray 28))
   have HT : Hid (∀ g, (fun y => w.heap.size + 1 + 1 + 1 + 1 + 1 ≤ y ∧ y < X) g → g < (W3.alloc (.cells [.int .i64 lk, .int .i64 ln, .string ls, .slice D1 li.length d1, .slice D2 ll.length d2].toArray 28)).heap.size) := fun g h => by
    rw [World.size_alloc]
    exact Nat.lt_trans h.2 (Nat.lt_succ_of_lt lX)
   have Hv := Lib.hid (And.intro v1 (And.intro v3 (And.intro v5 hw3)))
   have hY2 := hY.lt
   clear hY hX v1 v2 v3 v4 v5 hw3 hLe HL h2 hr3 hwt hlc HR hO
   go_wp2_with (at_builtin; go_must (refine wl_append _ rfl (.tmp 31) (.tmp 33) rfl sl_vals RVal.fair rfl rfl hO' (Src.one (es := [.int .i64 lk, .int .i64 ln, .string ls, .slice D1 li.length d1, .slice D2 ll.length d2]) (y := ValueD.mk lk ln ls li ll) rfl (Ones.of_all rfl) hr' (Lies.newAt (by first | rfl | simp [World.setCell]))) HT.out ?_ ?_ ?_))
   ·omega
   intro v7 w7 hO7 hg7 _
   have Hfin := Lib.hid (broken_grown Hv.out hsz hg7 hO7 (by simp))
   clear hO7 hg7 Hv hO' hr' HT
   go_wp2_with fail
   go_meet
   case rel => rw [Hle.out]; exact Hfin.out
  ·have hb2 : (why == 2) = false := by simpa using h2
   by_cases h3 : why = 3
   ·--[A3
    have hb3 : (why == 3) = true := by simpa using h3
    have c1 := v1.cell 0
    have c2 := v2.cell 0
    obtain ⟨p0, p1, p2, p3, p4⟩ := v3.five
    obtain ⟨q0, q1, q2, q3, q4⟩ := v4.five
    have l1 := v1.lt
    have l2 := v2.lt
    have l3 := v3.lt
    have l4 := v4.lt
    have Hlc := Lib.hid (hlc.out _ hw3)
    go_wp2_with fail
    refine Hlc.out.mono ?_
    rintro e w5 ⟨rfl, hb5⟩
    obtain ⟨kk, hkk⟩ : ∃ k, k = (lacksF bw br ⟨fi, fn, ft, fk, fr⟩ ⟨gi, gn, gt, gk, gr⟩).getD 0 := ⟨_, rfl⟩
    have hLe : L = [.mk 0 kk ⟨#[]⟩ [] []] := by rw [HL.out, if_neg h2, if_pos h3, hkk]
    rw [← hkk]
    have Hle := Lib.hid hLe
    have Hall := Lib.hid (broken_put (zs := [.int .i64 0, .int .i64 kk, .string ⟨#[]⟩, .slice none 0 0, .slice none 0 0]) hw3 hsz v1 v3 v5 hY hb5 rfl)
    have hY5 := hY.below hb5 hY.lt
    obtain ⟨y0, y1, y2, y3, y4⟩ := hY5.five
    have k0 := hY5.frozen 0
    have k1 := hY5.frozen 1
    have k2 := hY5.frozen 2
    have k3 := hY5.frozen 3
    have k4 := hY5.frozen 4
    have l5 := hY5.lt
    have Hsz := Lib.hid hsz
    clear hX hY hY5 v1 v2 v3 v4 v5 hw3 hLe HL h2 h3 hr3 hwt hlc HR hb5 Hlc hkk
    go_wp2_with fail
    change Met _ _ (setCells w5 (X + 1) 0 [.int .i64 0, .int .i64 kk, .string ⟨#[]⟩, .slice none 0 0, .slice none 0 0])
    clear y0 y1 y2 y3 y4 k0 k1 k2 k3 k4 l5
    generalize setCells w5 (X + 1) 0 _ = W6 at Hall ⊢
    go_meet
    case rel => rw [Hle.out]; exact ⟨_, _, rfl, by simp, of_leaf Hall.out.1 Hsz.out, Hall.out.2.1, Hall.out.2.2.1, Hall.out.2.2.2.1, Hall.out.2.2.2.2⟩
   ·--[AE
    have hb3 : (why == 3) = false := by simpa using h3
    have hLe : L = [.mk lk ln ls li ll] := by rw [HL.out, if_neg h2, if_neg h3]
    have hl6 := of_one hY hr3 hsz
    clear hX hY
    have Hrel := Lib.hid (And.intro hl6 (And.intro v1 (And.intro v3 (And.intro v5 hw3))))
    have Hle := Lib.hid hLe
    clear hl6 v1 v2 v3 v4 v5 hw3 hLe HL h2 h3 hr3 hwt hlc HR
    go_wp2_with fail
    go_meet
    case rel => rw [Hle.out]; exact ⟨_, _, rfl, by simp, Hrel.out⟩
 case rest =>
  clear hX hY v1 v2 v3 v4 v5 hw3 hr3
  obtain ⟨A, cap, rfl, hL2, hl, b1, b3, b5, hw⟩ := hcut
  have hcw := hwt.out _ hw (fun y => w.heap.size + 1 + 1 + 1 + 1 + 1 ≤ y) A cap L hl (by omega)
  rw [HR.out] at hcw
  have Hcw := Lib.hid hcw
  have c0 := b1.cell 0
  have l0 := b1.lt
  have f0 := b3.cell 0
  have lf := b3.lt
  clear hcw hwt hl HR HL hlc
  go_wp2_with fail
  refine Hcw.out.mono ?_
  rintro e w5 ⟨cs, rfl, hrv, hb5⟩
  obtain ⟨rk, rn, rs, ri, rl⟩ := R
  obtain ⟨G1, g1, G2, g2, rfl, -, -⟩ := hrv.parts
  have z5 := b5.below hb5 b5.lt
  have Hall := Lib.hid (broken_after hw b5.lt hb5 z5 hrv (zs := [.int .i64 rk, .int .i64 rn, .string rs, .slice G1 ri.length g1, .slice G2 rl.length g2]) rfl)
  obtain ⟨q0, q1, q2, q3, q4⟩ := z5.five
  have k0 := z5.frozen 0
  have k1 := z5.frozen 1
  have k2 := z5.frozen 2
  have k3 := z5.frozen 3
  have k4 := z5.frozen 4
  have l5 := z5.lt
  clear hrv hb5 Hcw b5 b1 b3 z5
  go_wp2_with fail
  change bodyPost _ _ _ _ _ (setCells w5 (w.heap.size + 1 + 1 + 1 + 1) 0 [.int .i64 rk, .int .i64 rn, .string rs, .slice G1 ri.length g1, .slice G2 rl.length g2])
  generalize setCells w5 (w.heap.size + 1 + 1 + 1 + 1) 0 _ = W at Hall ⊢
  exact bodyPost_ret (broken_results Hall.out.1 rfl) rfl ⟨_, rfl, Hall.out.2.1, Hall.out.2.2⟩
end Go.Proofs.YtfidfakcbjoilaaDoor
