/- The walk of compat.wrapped. -/
import Derived.Test.YtfidfakcbjoilaaDoorWith
import Derived.Test.YtfidfakcbjoilaaDoorPairs
set_option linter.all false
set_option maxRecDepth 100000
set_option maxHeartbeats 8000000
namespace Go.Proofs.YtfidfakcbjoilaaDoor
open Go.RowKit
def FromOk (P : List PairD) : Prop := ∀ (i : Nat) (p : PairD), P[i]? = some p → p.from_ < 0 ∨ ∃ j : Nat, p.from_ = (j : Int) ∧ j < i
theorem fromOk {a r : BookD} {P : List PairD} (h : PathOk a r P) : FromOk P := fun i p hp => (h i p hp).elim (fun h => .inl h.2) (fun ⟨j, _, hj, e, _⟩ => .inr ⟨j, e, hj⟩)
theorem wrapF_fuel {b : BookD} {P : List PairD} (hf : FromOk P) : ∀ (k i : Nat) (v : ValueD), i < k → wrapF b P k i v = wrapF b P (i + 1) i v
 | 0, i, v, h => by omega
 | k + 1, i, v, h => by
  rw [wrapF, wrapF]
  cases hp : P[i]? with
  | none => rfl
  | some p =>
   simp only
   rcases hf i p hp with h0 | ⟨j, e, hj⟩
   ·rw [if_pos h0, if_pos h0]
   ·rw [if_neg (by omega), if_neg (by omega), e]
    simp only [Int.toNat_natCast]
    rw [wrapF_fuel hf k j _ (by omega), wrapF_fuel hf i j _ hj]
theorem wrapF_end {b : BookD} {P : List PairD} {i : Nat} {p : PairD} {v : ValueD} (hp : P[i]? = some p) (h0 : p.from_ < 0) : wrapF b P (i + 1) i v = v := by
 rw [wrapF, hp]
 simp only
 rw [if_pos h0]
theorem wrapF_next {b : BookD} {P : List PairD} (hf : FromOk P) {i j : Nat} {p q : PairD} {v : ValueD} (hp : P[i]? = some p) (hq : P[j]? = some q) (e : p.from_ = (j : Int)) (hj : j < i) : wrapF b P (i + 1) i v = wrapF b P (j + 1) j (withF b (typeOf b q.w) p.id [v]) := by
 rw [wrapF, hp]
 simp only
 rw [if_neg (by omega), e]
 simp only [Int.toNat_natCast, hq, Option.map_some, Option.getD_some]
 exact wrapF_fuel hf i j _ hj
theorem wrapped_results {W : World} {a : Act} {g : Nat} {c0 c1 c2 c3 c4 : Value} (hb : Box W g 28 [c0, c1, c2, c3, c4]) (h4 : a.tmps.getD 8 undef = .pointer (some ⟨g, 0, none⟩)) :
  (results Tryd.f31 a.tmps).run Tryd.prog W = .ok (.agg #[c0, c1, c2, c3, c4]) W := by
 obtain ⟨e0, e1, e2, e3, e4⟩ := hb.five
 simp only [Array.getD_eq_getD_getElem?] at h4
 simp [results, Tryd.results31, go_sem, h4, e0, e1, e2, e3, e4]
theorem wrapped_after {w wr w7 : World} {tB tV tR : TypeId} {cB cV cR zs : List Value} (zB : Box wr w.heap.size tB cB) (zV : Box wr (w.heap.size + 1) tV cV) (zR : Box wr (w.heap.size + 1 + 1) tR cR) (hw : Below w.heap.size w wr) (hB7 : Below wr.heap.size wr w7) (hl : zs.length = cV.length) {gp o : Nat} {v : Value} (hgp : gp < w.heap.size) (p2 : wr.cell? ⟨gp, o, none⟩ = some v) :
  Box (setCells w7 (w.heap.size + 1) 0 zs) w.heap.size tB cB ∧ Box (setCells w7 (w.heap.size + 1) 0 zs) (w.heap.size + 1 + 1) tR cR ∧ Below w.heap.size w (setCells w7 (w.heap.size + 1) 0 zs) ∧ Box (setCells w7 (w.heap.size + 1) 0 zs) (w.heap.size + 1) tV zs ∧ (setCells w7 (w.heap.size + 1) 0 zs).cell? ⟨gp, o, none⟩ = some v :=
 ⟨Box.farCells (by omega) _ _ (zB.below hB7 zB.lt), Box.farCells (by omega) _ _ (zR.below hB7 zR.lt), below_setCells (Nat.le_succ _) _ _ _ (below_via hw hB7 hw.size), (zV.below hB7 zV.lt).setCells zs hl, (World.cell?_of_block ((below_setCells (Nat.le_succ _) zs 0 _ (hB7.mono hw.size)).block gp hgp)).trans p2⟩
theorem wrapped_kept {S' : Nat → Prop} {w W6 w7 : World} {cs : List Value} {x : ValueD} (hs : w.heap.size + 1 + 1 + 1 ≤ W6.heap.size) (h : RVal (Un (fun y => (S' y ∧ y < w.heap.size) ∨ w.heap.size + 1 + 1 + 1 ≤ y) W6) w7 cs x) (zs : List Value) : RVal (fun y => (S' y ∧ y < w.heap.size) ∨ w.heap.size + 1 + 1 + 1 ≤ y) (setCells w7 (w.heap.size + 1) 0 zs) cs x :=
 RVal.fair.mono (RVal.fair.keep h (Keep.setCells (g := w.heap.size + 1) (by
  intro h
  rcases h with (h | h) | h
  ·have := h.2; omega
  ·omega
  ·have : W6.heap.size ≤ w.heap.size + 1 := h
   omega) zs 0 w7)) (fun y hy _ => hy.elim id (fun h => .inr (by have : W6.heap.size ≤ y := h; omega)))
theorem wrapped_any (S S' SP : Nat → Prop) (vb vp : Value) (b : BookD) (hg : goodF b = 0) (hBk : BookOk b) (P : List PairD) (hP : ∀ p ∈ P, noneB b p.w = false) (hf : FromOk P) (i0 : Nat) (hi0 : i0 < P.length) (hPl : P.length ≤ 16) (cs : List Value) (v0 : ValueD) (w : World) (hb0 : RSl 5 96 RType S w [vb] b) (hW : Words w)
  (hp : RSl 4 48 RPair SP w [vp] P) (hr : RVal S' w cs v0) : Calls Tryd.prog 31 #[.agg #[vb], vp, .int .i64 (i0 : Int), .agg cs.toArray] w (ValAny S' w (wrapF b P (i0 + 1) i0 v0)) := by
 obtain ⟨AB, cb, rfl, -, -⟩ := hb0.form
 obtain ⟨AP, cp, rfl, -, -⟩ := hp.form
 obtain ⟨gp, op, rfl, hSp, hgp⟩ := hp.base (by omega)
 obtain ⟨R, hR⟩ : ∃ R, R = wrapF b P (i0 + 1) i0 v0 := ⟨_, rfl⟩
 rw [← hR]
 have HR := Lib.hid hR.symm
 have HPp := Lib.hid hp
 have Hf := Lib.hid hf
 have hwith := Lib.hid (fun (q : PairD) (hq : q ∈ P) (id : Int) (A : Option Addr) (cap : Nat) (l : List ValueD) (W : World) (h : Below w.heap.size w W) (SL : Nat → Prop) (hl : RSl 5 80 RVal SL W [.slice A l.length cap] l) (hn : l.length ≤ 500) => with_any S SL _ b hg hBk q.w (hP q hq) id A cap l W ((RSl.fair RType.fair).below hb0 h) (hW.below h) hl hn)
 have Hr := Lib.hid hr
 obtain ⟨vk, vn, vs, vi, vl⟩ := v0
 obtain ⟨D1, d1, D2, d2, rfl, -, -⟩ := hr.parts
 obtain ⟨x1, x2, x3, x4⟩ := boxes3 w [.slice AB b.length cb] [.int .i64 vk, .int .i64 vn, .string vs, .slice D1 vi.length d1, .slice D2 vl.length d2] [.int .i64 0, .int .i64 0, .string ⟨#[]⟩, .slice none 0 0, .slice none 0 0] 24 28 28
 have hr0 := RVal.fair.below (RVal.fair.mono hr (T := (fun y => (S' y ∧ y < w.heap.size) ∨ w.heap.size + 1 + 1 + 1 ≤ y)) (fun y hy hl => .inl ⟨hy, hl⟩)) x4
 clear hb0 hW hp hr hg hBk hP hf hR Hr
 go_enter Tryd.func31, Tryd.ntmps31
 go_wp2_with fail
 go_loopw [2] (fun c wr => ∃ (i : Nat) (vk vn : Int) (vs : ByteArray) (vi : List Int) (vl : List ValueD) (D1 : Option Addr) (d1 : Nat) (D2 : Option Addr) (d2 : Nat), c = .int .i64 i ∧ i < P.length ∧ Hid (wrapF b P (i + 1) i (.mk vk vn vs vi vl) = R) ∧ RVal (fun y => (S' y ∧ y < w.heap.size) ∨ w.heap.size + 1 + 1 + 1 ≤ y) wr [.int .i64 vk, .int .i64 vn, .string vs, .slice D1 vi.length d1, .slice D2 vl.length d2] (.mk vk vn vs vi vl) ∧ Box wr w.heap.size 24 [.slice AB b.length cb] ∧ Box wr (w.heap.size + 1) 28 [.int .i64 vk, .int .i64 vn, .string vs, .slice D1 vi.length d1, .slice D2 vl.length d2] ∧ Box wr (w.heap.size + 1 + 1) 28 [.int .i64 0, .int .i64 0, .string ⟨#[]⟩, .slice none 0 0, .slice none 0 0] ∧ Below w.heap.size w wr) (fun c _ => (intOf c).toNat)
 case atStart => exact ⟨i0, vk, vn, vs, vi, vl, D1, d1, D2, d2, rfl, hi0, HR, hr0, x1, x2, x3, x4⟩
 case round =>
  clear x1 x2 x3 x4 hr0 HR
  obtain ⟨i, vk, vn, vs, vi, vl, D1, d1, D2, d2, rfl, hi, HR, hr, zB, zV, zR, hw⟩ := hrel
  have hpw := (RSl.fair RPair.fair).below HPp.out hw
  have hci := hpw.flat (enc := pairCells) hi
  have hpi := List.getElem?_eq_getElem hi
  obtain ⟨p, hpe⟩ : ∃ p, p = P[i] := ⟨_, rfl⟩
  rw [← hpe] at hci hpi
  obtain ⟨pw, pr, pf, pid⟩ := p
  have hgl : gp < wr.heap.size := Nat.lt_of_lt_of_le hgp hw.size
  have p2 : wr.cell? ⟨gp, op + i * 4 + 2, none⟩ = some (.int .i64 pf) := hci.at_ 2 rfl
  have p3 : wr.cell? ⟨gp, op + i * 4 + 3, none⟩ = some (.int .i64 pid) := hci.at_ 3 rfl
  have hiP : (i : Int) < (P.length : Int) := by omega
  clear hci hpe
  rcases Hf.out i _ hpi with h0 | ⟨j, e, hj⟩
  ·--[END
   have hz : wrapF b P (i + 1) i (.mk vk vn vs vi vl) = .mk vk vn vs vi vl := wrapF_end hpi h0
   have Hz : Hid (R = .mk vk vn vs vi vl) := by show _ = _; rw [← HR.out, hz]
   have h0' : ¬ ((0 : Int) ≤ pf) := by
    have : pf < 0 := h0
    omega
   obtain ⟨e0, e1, e2, e3, e4⟩ := zV.five
   obtain ⟨r0, r1, r2, r3, r4⟩ := zR.five
   have hlg := zV.lt
   have g0 := zR.frozen 0
   have g1 := zR.frozen 1
   have g2 := zR.frozen 2
   have g3 := zR.frozen 3
   have g4 := zR.frozen 4
   have hlr := zR.lt
   have hlow : w.heap.size + 1 + 1 < wr.heap.size := zR.lt
   clear h0 hz hpi HR zV zB
   have hrd2 := RVal.fair.mono (T := Un S' w) (RVal.fair.keep hr (Keep.setCells (g := w.heap.size + 1 + 1) (by rintro (h | h) <;> omega) [.int .i64 vk, .int .i64 vn, .string vs, .slice D1 vi.length d1, .slice D2 vl.length d2] 0 wr)) (fun y hy _ => hy.elim (fun h => .inl h.1) (fun h => .inr (by show w.heap.size ≤ y; omega)))
   have hb5 := zR.setCells [.int .i64 vk, .int .i64 vn, .string vs, .slice D1 vi.length d1, .slice D2 vl.length d2] rfl
   have hw5 := below_setCells (g := w.heap.size + 1 + 1) (by omega) [.int .i64 vk, .int .i64 vn, .string vs, .slice D1 vi.length d1, .slice D2 vl.length d2] 0 _ hw
   clear hr zR hw
   go_wp2_with fail
   change bodyPost _ _ _ _ _ (setCells wr (w.heap.size + 1 + 1) 0 [.int .i64 vk, .int .i64 vn, .string vs, .slice D1 vi.length d1, .slice D2 vl.length d2])
   rw [Hz.out]
   generalize setCells wr (w.heap.size + 1 + 1) 0 _ = W at hb5 hw5 hrd2 ⊢
   exact bodyPost_ret (wrapped_results hb5 rfl) rfl ⟨_, rfl, hrd2, hw5⟩
  ·--[STEP
   have hjl : j < P.length := by omega
   have hcj := hpw.flat (enc := pairCells) hjl
   have hpj := List.getElem?_eq_getElem hjl
   have hqm := List.getElem_mem hjl
   obtain ⟨q, hqe⟩ : ∃ q, q = P[j] := ⟨_, rfl⟩
   rw [← hqe] at hcj hpj hqm
   obtain ⟨qw, qr, qf, qid⟩ := q
   have q0 : wr.cell? ⟨gp, op + j * 4, none⟩ = some (.string qw) := hcj.at_ 0 rfl
   have hn : wrapF b P (i + 1) i (.mk vk vn vs vi vl) = wrapF b P (j + 1) j (withF b (typeOf b qw) pid [.mk vk vn vs vi vl]) := wrapF_next Hf.out hpi hpj e hj
   have Hn : Hid (wrapF b P (j + 1) j (withF b (typeOf b qw) pid [.mk vk vn vs vi vl]) = R) := by show _ = _; rw [← hn]; exact HR.out
   have hcall := Lib.hid (hwith.out _ hqm pid)
   have e' : pf = (j : Int) := e
   subst e'
   have hjP : (j : Int) < (P.length : Int) := by omega
   have hj0 : (0 : Int) ≤ (j : Int) := by omega
   have Hj := Lib.hid hj
   clear hpi hpj hqm hqe hcj hn HR e hj hpw
   have hbd := below_drew (Below.here wr)
   have HS := Lib.hid (fun W (h : Below wr.heap.size wr W) => show (fun W' => World.cell? W' ⟨w.heap.size, 0, none⟩ = some (.slice AB b.length cb) ∧ World.cell? W' ⟨gp, op + i * 4 + 2, none⟩ = some (.int .i64 j) ∧ World.cell? W' ⟨gp, op + i * 4 + 3, none⟩ = some (.int .i64 pid) ∧ World.cell? W' ⟨gp, op + j * 4, none⟩ = some (.string qw) ∧ (World.cell? W' ⟨w.heap.size + 1, 0, none⟩ = some (.int .i64 vk) ∧ World.cell? W' ⟨w.heap.size + 1, 1, none⟩ = some (.int .i64 vn) ∧ World.cell? W' ⟨w.heap.size + 1, 2, none⟩ = some (.string vs) ∧ World.cell? W' ⟨w.heap.size + 1, 3, none⟩ = some (.slice D1 vi.length d1) ∧ World.cell? W' ⟨w.heap.size + 1, 4, none⟩ = some (.slice D2 vl.length d2))) W from ⟨(zB.below h zB.lt).cell 0, (World.cell?_of_block (h.block _ hgl)).trans p2, (World.cell?_of_block (h.block _ hgl)).trans p3, (World.cell?_of_block (h.block _ hgl)).trans q0, (zV.below h zV.lt).five⟩)
   have hS := HS.out _ hbd
   have hsw : w.heap.size + 1 + 1 < wr.heap.size := zR.lt
   go_upto_region 2 with fail
   have hwd : wr.heap.size ≤ wr.drew.heap.size := hbd.size
   refine lateP_start (fun W' => World.cell? W' ⟨w.heap.size, 0, none⟩ = some (.slice AB b.length cb) ∧ World.cell? W' ⟨gp, op + i * 4 + 2, none⟩ = some (.int .i64 j) ∧ World.cell? W' ⟨gp, op + i * 4 + 3, none⟩ = some (.int .i64 pid) ∧ World.cell? W' ⟨gp, op + j * 4, none⟩ = some (.string qw) ∧ (World.cell? W' ⟨w.heap.size + 1, 0, none⟩ = some (.int .i64 vk) ∧ World.cell? W' ⟨w.heap.size + 1, 1, none⟩ = some (.int .i64 vn) ∧ World.cell? W' ⟨w.heap.size + 1, 2, none⟩ = some (.string vs) ∧ World.cell? W' ⟨w.heap.size + 1, 3, none⟩ = some (.slice D1 vi.length d1) ∧ World.cell? W' ⟨w.heap.size + 1, 4, none⟩ = some (.slice D2 vl.length d2))) (fun i => i != 18) (by kernel_rfl) ?_
   generalize wr.drew = Wd at hS hbd hwd ⊢
   refine tkP 0 hS ?_
   try simp only [pu]
   refine ppP 1 ?_
   try simp only [pu]
   refine ppP 2 ?_
   try simp only [pu]
   refine ppP 3 ?_
   try simp only [pu]
   refine ppP 4 ?_
   try simp only [pu]
   refine ppP 5 ?_
   try simp only [pu]
   refine tkP 6 hS ?_
   try simp only [pu]
   refine ppP 7 ?_
   try simp only [pu]
   refine ppP 8 ?_
   try simp only [pu]
   refine tkP 9 hS ?_
   try simp only [pu]
   refine ppP 10 ?_
   try simp only [pu]
   refine ppP 11 ?_
   try simp only [pu]
   refine ppP 12 ?_
   try simp only [pu]
   refine ppP 13 ?_
   try simp only [pu]
   refine tkP 14 hS ?_
   try simp only [pu]
   refine tkP 15 hS ?_
   try simp only [pu]
   refine lateP_one (i := 16) rfl (by kernel_rfl) (fun K hK => ?_)
   go_simp
   have hX := Box.new Wd 28 [.int .i64 vk, .int .i64 vn, .string vs, .slice D1 vi.length d1, .slice D2 vl.length d2]
   have hB6 := hbd.alloc hbd.size (.cells [.int .i64 vk, .int .i64 vn, .string vs, .slice D1 vi.length d1, .slice D2 vl.length d2].toArray 28)
   have hr6 := RVal.fair.below (RVal.fair.below hr hbd) ((Below.here Wd).alloc (Nat.le_refl _) (.cells [.int .i64 vk, .int .i64 vn, .string vs, .slice D1 vi.length d1, .slice D2 vl.length d2].toArray 28))
   replace hS := HS.out _ hB6
   have hs6 : (Wd.alloc (.cells [.int .i64 vk, .int .i64 vn, .string vs, .slice D1 vi.length d1, .slice D2 vl.length d2].toArray 28)).heap.size = Wd.heap.size + 1 := by simp
   refine hK.out _ _ (fun _ _ => hS) ?_
   clear hK K
   try simp only [pu]
   generalize Wd.heap.size = X at hX hwd hs6 ⊢
   generalize (World.alloc Wd _) = W6 at hX hB6 hS hr6 hs6 ⊢
   have hl6 : RSl 5 80 RVal (fun y => (S' y ∧ y < w.heap.size) ∨ w.heap.size + 1 + 1 + 1 ≤ y) W6 [.slice (some ⟨X, 0, none⟩) 1 1] [.mk vk vn vs vi vl] := RSl.of_box (css := [[.int .i64 vk, .int .i64 vn, .string vs, .slice D1 vi.length d1, .slice D2 vl.length d2]]) (xs := [ValueD.mk vk vn vs vi vl]) (by simpa using hX) rfl (show (fun y => (S' y ∧ y < w.heap.size) ∨ w.heap.size + 1 + 1 + 1 ≤ y) X from .inr (by omega)) (by simp) (by simp) (by
    intro k x cs hx hcs
    cases k with
    | zero =>
     have e1 : ValueD.mk vk vn vs vi vl = x := by simpa using hx
     have e2 : [.int .i64 vk, .int .i64 vn, .string vs, .slice D1 vi.length d1, .slice D2 vl.length d2] = cs := by simpa using hcs
     subst e1 e2
     exact ⟨rfl, hr6⟩
    | succ k => simp at hx)
   have hc6 := hcall.out (some ⟨X, 0, none⟩) 1 [.mk vk vn vs vi vl] W6 (below_via hw hB6 hw.size) (fun y => (S' y ∧ y < w.heap.size) ∨ w.heap.size + 1 + 1 + 1 ≤ y) hl6 (by simp)
   obtain ⟨nv, hnv⟩ : ∃ x, x = withF b (typeOf b qw) pid [.mk vk vn vs vi vl] := ⟨_, rfl⟩
   have Hnv := Lib.hid hnv
   rw [← hnv] at Hn
   clear hl6 hr hr6 hnv hbd
   refine lateP_one (i := 17) rfl (by kernel_rfl) (fun K hK => ?_)
   go_simp
   refine hc6.mono ?_
   rintro e w7 ⟨cs, rfl, hrv, hb7⟩
   change RVal _ _ _ (withF b (typeOf b qw) pid [.mk vk vn vs vi vl]) at hrv
   rw [← Hnv.out] at hrv
   obtain ⟨nk, nn, ns, ni, nl⟩ := nv
   obtain ⟨F1, f1, F2, f2, rfl, -, -⟩ := hrv.parts
   have hB7 := below_via hB6 hb7 hB6.size
   replace hS := HS.out _ hB7
   refine hK.out _ _ (fun _ _ => hS) ?_
   clear hK K
   try simp only [pu]
   have zV7 := zV.below hB7 zV.lt
   have Hall := Lib.hid (And.intro (wrapped_kept (S' := S') (w := w) (by rw [hs6]; exact Nat.le_succ_of_le (Nat.le_trans hsw hwd)) hrv [.int .i64 nk, .int .i64 nn, .string ns, .slice F1 ni.length f1, .slice F2 nl.length f2]) (wrapped_after (zs := [.int .i64 nk, .int .i64 nn, .string ns, .slice F1 ni.length f1, .slice F2 nl.length f2]) zB zV zR hw hB7 rfl hgp p2))
   obtain ⟨c0, c1, c2, c3, c4⟩ := zV7.five
   have f0 := zV7.frozen 0
   have f1' := zV7.frozen 1
   have f2' := zV7.frozen 2
   have f3 := zV7.frozen 3
   have f4 := zV7.frozen 4
   have lv := zV7.lt
   clear hrv hB7 hB6 hb7 hc6 zV7 zB zV zR hw hX
   clear hS HS hcall
   generalize hV : w.heap.size + 1 = V at c0 c1 c2 c3 c4 f0 f1' f2' f3 f4 lv ⊢
   refine lateP_one (i := 18) rfl (by kernel_rfl) (fun K hK => ?_)
   go_simp
   trace "A"
   refine hK.out _ _ (fun h => absurd h (by decide)) ?_
   clear hK K
   try simp only [pu]
   trace "B"
   change anyP _ _ _ _ _ _ _ _ _ (Go.Proofs.YtfidfakcbjoilaaDoor.setCells w7 V 0 [.int .i64 nk, .int .i64 nn, .string ns, .slice F1 ni.length f1, .slice F2 nl.length f2])
   subst hV
   clear c0 c1 c2 c3 c4 f0 f1' f2' f3 f4 lv
   generalize Go.Proofs.YtfidfakcbjoilaaDoor.setCells w7 (w.heap.size + 1) 0 _ = w8 at Hall ⊢
   obtain ⟨hrv8, zB8, zR8, hw8, zV8, p28⟩ := Hall.out
   trace "C"
   refine lateP_done (by kernel_rfl) ?_ _
   go_wp2_with fail
   go_roundw
   case rel => exact ⟨j, nk, nn, ns, ni, nl, F1, f1, F2, f2, by go_num, hjl, Hn, hrv8, zB8, zV8, zR8, hw8⟩
   case measure => have := Hj.out; go_light; simp [intOf]; omega
end Go.Proofs.YtfidfakcbjoilaaDoor
