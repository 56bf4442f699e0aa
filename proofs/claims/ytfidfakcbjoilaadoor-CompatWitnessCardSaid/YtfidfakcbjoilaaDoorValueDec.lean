/- The walk of value.decode. -/
import Derived.Deep.Light
import Derived.Test.YtfidfakcbjoilaaDoorValueFilled
import Derived.Test.YtfidfakcbjoilaaDoorWires
import Derived.Test.YtfidfakcbjoilaaDoorVLaws
import Derived.Deep.DeepCutAuto
set_option linter.all false
set_option maxRecDepth 100000
set_option maxHeartbeats 8000000
namespace Go.Proofs.YtfidfakcbjoilaaDoor
open Go.RowKit
attribute [local go_sem ↓] Go.wp_at_zero Go.wp_at_succ
def lastP (ps : List Part) : Nat → Option Int
 | 0 => none
 | k + 1 => (ps[k]?).map (·.id)
def ValCode (w : World) (r : ValueD × Int) (e : Ending) (w' : World) : Prop := ∃ cs, e = .returned (.tuple #[.agg cs.toArray, .int .i64 r.2]) ∧ RVal (New w) w' cs r.1 ∧ Below w.heap.size w w'
theorem decode_results {W : World} {a : Act} {g : Nat} {c0 c1 c2 c3 c4 : Value} {n : Int} (hb : Box W g 28 [c0, c1, c2, c3, c4]) (h4 : a.tmps.getD 8 undef = .pointer (some ⟨g, 0, none⟩)) (h5 : a.tmps.getD 9 undef = .int .i64 n) :
  (results Tryd.f29 a.tmps).run Tryd.prog W = .ok (.tuple #[.agg #[c0, c1, c2, c3, c4], .int .i64 n]) W := by
 obtain ⟨e0, e1, e2, e3, e4⟩ := hb.five
 simp only [Array.getD_eq_getD_getElem?] at h4 h5
 simp [results, Tryd.results29, go_sem, h4, h5, e0, e1, e2, e3, e4]
theorem decGo_cons {b : BookD} {rec : TypeD → List UInt8 → ValueD × Int} {t : TypeD} {ps : List Part} {k : Nat} (hk : k < ps.length) (ai : List Int) (al : List ValueD) :
  decGo b rec t (lastP ps k) (ps.drop k) ai al = (if fallsF (lastP ps k) ps[k].id = true then (([], []), 1) else match fieldOf t ps[k].id with
   | none => decGo b rec t (lastP ps (k + 1)) (ps.drop (k + 1)) ai al
   | some f =>
    if fitsF b f (bareV ps[k]) ≠ 0 then (([], []), fitsF b f (bareV ps[k]))
    else if f.rule ≠ 3 ∧ hasI ai ps[k].id = true then (([], []), 4)
    else if f.kind = 5 then
     (if (rec (typeOf b f.type) (bytes ps[k].s)).2 ≠ 0 then (([], []), (rec (typeOf b f.type) (bytes ps[k].s)).2)
     else decGo b rec t (lastP ps (k + 1)) (ps.drop (k + 1)) (ai ++ [ps[k].id]) (al ++ [(rec (typeOf b f.type) (bytes ps[k].s)).1]))
    else decGo b rec t (lastP ps (k + 1)) (ps.drop (k + 1)) (ai ++ [ps[k].id]) (al ++ [bareV ps[k]])) := by
 have h1 : ps.drop k = ps[k] :: ps.drop (k + 1) := List.drop_eq_getElem_cons hk
 have h3 : lastP ps (k + 1) = some ps[k].id := by show Option.map _ ps[k]? = _; rw [List.getElem?_eq_getElem hk]; rfl
 rw [h1, decGo, h3]
 cases fieldOf t ps[k].id <;> rfl
theorem has_quiet (S : Nat → Prop) (v : Value) (l : List Int) (n : Int) (w : World) (k : Nat) {r : Bool} (hr : hasI l n = r) (hl : RSl 1 8 RInt S w [v] l) :
  Calls Tryd.prog 51 #[v, .int .i64 n] (w.drewN k) fun e w'' => e = .returned (.bool r) ∧ ∃ m, w'' = w.drewN m :=
 Calls.quiet_of_same (by subst hr; exact has_any S v l n _ (RSl.drewN RInt.fair hl k))
theorem opt_none {α : Type} {o : Option α} (h : o.isSome = false) : o = none := by cases o with | none => rfl | some _ => cases h
theorem opt_some {α : Type} {o : Option α} {d f : α} (h : o.isSome = true) (hd : o.getD d = f) : o = some f := by cases o with | none => cases h | some x => exact congrArg some hd
theorem Rows2.apart2 {U : Nat → Prop} {base : Nat} {w : World} {g : Nat} {vi vl : Value} {ids : List Int} {l : List ValueD} (_ : Rows2 U base w g vi vl ids l) {S : Nat → Prop} {cs : List Value} {x : ValueD} (hr : RVal S w cs x)
  (hS : ∀ y, S y → y ≠ g ∧ vi.ownBlock ≠ some y ∧ vl.ownBlock ≠ some y ∧ U y) : RVal (fun y => Apart U g vi vl y ∧ y < w.heap.size) w cs x := RVal.fair.mono hr fun y hy hl => ⟨hS y hy, hl⟩
theorem falls_first {ps : List Part} {id : Int} : fallsF (lastP ps 0) id = false := rfl
theorem falls_next {ps : List Part} {k : Nat} (h : k < ps.length) {id : Int} : fallsF (lastP ps (k + 1)) id = decide (id < ps[k].id) := by
 show fallsF (Option.map _ ps[k]?) id = _
 rw [List.getElem?_eq_getElem h]; rfl
def DecAt (S : Nat → Prop) (vb : Value) (b : BookD) (k : Nat) : Prop := ∀ (d : Int) (cst : List Value) (t : TypeD) (s : ByteArray) (w : World), d + k = 25 → 1 ≤ d → RSl 5 96 RType S w [vb] b → RType S w cst t → t ∈ b → findT b t.name = some t → t.enum = false → s.size ≤ maxLen →
  Calls Tryd.prog 29 #[.agg #[vb], .agg cst.toArray, .string s, .int .i64 d] w (ValCode w (decV b k t (bytes s)))
theorem vdecode_zero (S : Nat → Prop) (vb : Value) (b : BookD) : DecAt S vb b 0 := by
 intro d cst t s w hd hd1 hb0 ht hmem hfi hen hs
 obtain ⟨A, cap, rfl, hlc, hlb⟩ := hb0.form
 obtain ⟨A1, k1, A2, k2, A3, k3, rfl, hf, hgn, hi⟩ := ht.parts
 obtain ⟨x1, x2, x3, x4⟩ := boxes3 w [.slice A b.length cap] [.string t.name, .bool t.enum, .slice A1 t.fields.length k1, .slice A2 t.gone.length k2, .slice A3 t.items.length k3] [.int .i64 0, .int .i64 0, .string ⟨#[]⟩, .slice none 0 0, .slice none 0 0] 24 52 28
 have hd2 : 24 < d := by go_light; omega
 clear hb0 ht hf hgn hi hen
 go_enter Tryd.func29, Tryd.ntmps29
 go_wp2_with fail
 exact bodyPost_ret (decode_results x3 rfl rfl) rfl ⟨_, rfl, RVal.zero, x4⟩
theorem vdecode_succ (S : Nat → Prop) (vb : Value) (b : BookD) (hg : goodF b = 0) (k : Nat) (IH0 : DecAt S vb b k) : DecAt S vb b (k + 1) := by
 intro d cst t s w hd hd1 hb0 ht hmem hfi hen hs
 obtain ⟨A, cap, rfl, hlc, hlb⟩ := hb0.form
 obtain ⟨A1, k1, A2, k2, A3, k3, rfl, hf, hgn, hi⟩ := ht.parts
 have hm := good_msg hg hmem hen
 have IH := Lib.hid (IH0 (d + 1))
 obtain ⟨x1, x2, x3, x4⟩ := boxes3 w [.slice A b.length cap] [.string t.name, .bool t.enum, .slice A1 t.fields.length k1, .slice A2 t.gone.length k2, .slice A3 t.items.length k3] [.int .i64 0, .int .i64 0, .string ⟨#[]⟩, .slice none 0 0, .slice none 0 0] 24 52 28
 have HB := Lib.hid hb0
 have HT := Lib.hid ht
 have HM := Lib.hid hm
 have HG := Lib.hid hg
 obtain ⟨dF, hdF⟩ : ∃ r, r = decF (bytes s) := ⟨_, rfl⟩
 have hwd := fun W => decode_any s W hs
 rw [← hdF] at hwd
 have Hwd := Lib.hid hwd
 obtain ⟨r, hr⟩ : ∃ r, r = decV b (k + 1) t (bytes s) := ⟨_, rfl⟩
 have Hr : Hid (r = if dF.2 ≠ 0 then (.zero, dF.2) else if (decGo b (decV b k) t none dF.1 [] []).2 ≠ 0 then (.zero, (decGo b (decV b k) t none dF.1 [] []).2)
   else (filledF b 4 t (decGo b (decV b k) t none dF.1 [] []).1.1 (decGo b (decV b k) t none dF.1 [] []).1.2, 0)) := by
  show _ = _
  rw [hr, decV, hdF]
 rw [← hr]
 have hd2 : ¬ 24 < d := by go_light; omega
 clear hb0 ht hf hgn hi hm hwd hdF hr hmem hfi hen hs
 go_enter Tryd.func29, Tryd.ntmps29
 go_wp2_with fail
 refine (Hwd.out _).mono ?_
 rintro e w1 ⟨vps, rfl, hps, hb1, hpsz, hpl⟩
 obtain ⟨ps, dc⟩ := dF
 dsimp only at hps hpsz hpl Hr ⊢
 obtain ⟨PA, pcap, rfl, hpc, hpb⟩ := hps.form
 have hw1 := below_via x4 hb1 x4.size
 have y1 := x1.below hb1 x1.lt
 have y2 := x2.below hb1 x2.lt
 have y3 := x3.below hb1 x3.lt
 have HP := Lib.hid hps
 have HPs := Lib.hid hpsz
 clear hb1 x1 x2 x3 x4 hps hpsz
 by_cases hdc : dc = 0
 ·subst hdc
  rw [if_neg (by simp)] at Hr
  obtain ⟨rec, hrec⟩ : ∃ rec, rec = decV b k := ⟨_, rfl⟩
  rw [← hrec] at Hr
  have Hrec := Lib.hid hrec
  obtain ⟨DG, hDG⟩ : ∃ D, D = decGo b rec t none ps [] [] := ⟨_, rfl⟩
  rw [← hDG] at Hr
  have HDG := Lib.hid hDG
  have HB1 := Lib.hid ((RSl.fair RType.fair).below HB.out hw1)
  have HT1 := Lib.hid (RType.fair.below HT.out hw1)
  have hG : w.heap.size + 1 + 1 < w1.heap.size := y3.lt
  clear hrec hDG HB HT
  go_wp2_with fail
  go_loopg [36] ps.length (fun gk i wr => ∃ (q : Nat) (ai : List Int) (al : List ValueD) (vi vl : Value), i = .int .i64 q ∧ gk + q = ps.length ∧ Hid (decGo b rec t (lastP ps q) (ps.drop q) ai al = DG) ∧ ai.length = al.length ∧ ai.length ≤ q ∧
    Rows2 (fun y => w1.heap.size + 1 ≤ y) (w1.heap.size + 1) wr w1.heap.size vi vl ai al ∧ Box wr w1.heap.size 28 [.int .i64 2, .int .i64 0, .string ⟨#[]⟩, vi, vl] ∧ Below w1.heap.size w1 wr)
  case atStart =>
   exact ⟨0, [], [], .slice none 0 0, .slice none 0 0, rfl, rfl, HDG.out.symm, rfl, Nat.le_refl _, Rows2.new _ _ _ _ (by go_light; omega) (by simp), Box.new w1 _ _, (Below.refl _ _).alloc (Nat.le_refl _) _⟩
  case round =>
   obtain ⟨q, ai, al, vi, vl, rfl, hq, he, hll, hlq, hR, zG, hw⟩ := hrel
   have Hq := Lib.hid hq
   have Hll := Lib.hid hll
   have zB := y1.below hw y1.lt
   have zT := y2.below hw y2.lt
   have zR := y3.below hw y3.lt
   by_cases hlt : q < ps.length
   ·obtain ⟨pg, po, rfl, hSp, hgp⟩ := HP.out.base (by go_light; omega)
    have hc := (HP.out.flat (enc := partCells) hlt).keep (Keep.of_below hw) hSp
    have hst := decGo_cons (b := b) (rec := rec) (t := t) hlt ai al
    rw [he.out] at hst
    have hpz := HPs.out ps[q] (List.getElem_mem hlt)
    have hq1 : q - 1 < ps.length := Nat.lt_of_le_of_lt (Nat.sub_le _ _) hlt
    have hpv : wr.cell? ⟨pg, po + (q - 1) * 4, none⟩ = some (.int .i64 (ps[q - 1]'hq1).id) := ((HP.out.flat (enc := partCells) hq1).keep (Keep.of_below hw) hSp).at_ 0 rfl
    have hfn : 0 < q → ∀ id, fallsF (lastP ps q) id = decide (id < (ps[q - 1]'hq1).id) := fun h0 id => by
     obtain ⟨j, rfl⟩ : ∃ j, q = j + 1 := ⟨q - 1, by go_light; omega⟩
     exact falls_next (by go_light; omega)
    have hf0 : ¬ 0 < q → ∀ id, fallsF (lastP ps q) id = false := fun h0 id => by
     obtain rfl : q = 0 := by go_light; omega
     rfl
    obtain ⟨y, hye⟩ : ∃ y, y = (ps[q - 1]'hq1).id := ⟨_, rfl⟩
    rw [← hye] at hpv hfn
    clear hye hq1
    obtain ⟨p, hp⟩ : ∃ p, p = ps[q] := ⟨_, rfl⟩
    rw [← hp] at hc hst hpz
    obtain ⟨pid, pk, pn, pp⟩ := p
    have q0 : wr.cell? ⟨pg, po + q * 4, none⟩ = some (.int .i64 pid) := hc.at_ 0 rfl
    have q1 : wr.cell? ⟨pg, po + q * 4 + 1, none⟩ = some (.int .i64 pk) := hc.at_ 1 rfl
    have q2 : wr.cell? ⟨pg, po + q * 4 + 2, none⟩ = some (.int .i64 pn) := hc.at_ 2 rfl
    have q3 : wr.cell? ⟨pg, po + q * 4 + 3, none⟩ = some (.string pp) := hc.at_ 3 rfl
    have hgpl : pg < wr.heap.size := Nat.lt_of_lt_of_le hgp hw.size
    have hpz' : pp.size ≤ 20000 := hpz
    dsimp only at hst
    obtain ⟨fl, hfl⟩ : ∃ fl, fl = fallsF (lastP ps q) pid := ⟨_, rfl⟩
    have hfn' : 0 < q → fl = decide (pid < y) := fun h => by rw [hfl]; exact hfn h pid
    have hf0' : ¬ 0 < q → fl = false := fun h => by rw [hfl]; exact hf0 h pid
    rw [← hfl] at hst
    have Hst := Lib.hid hst
    have Hpz := Lib.hid hpz'
    have Hpv := Lib.hid hpv
    have Hfn := Lib.hid hfn'
    have Hf0 := Lib.hid hf0'
    clear hc hp hst hpz hpz' hpv hfn he hfl hf0 hfn' hf0' hq hll
    go_upto_region 10 with fail
    have hwa := hw.alloc hw.size (.cells #[.int .i64 pid, .int .i64 pk, .int .i64 pn, .string pp] 92)
    have aP : Box (wr.alloc (.cells #[.int .i64 pid, .int .i64 pk, .int .i64 pn, .string pp] 92)) wr.heap.size 92 [.int .i64 pid, .int .i64 pk, .int .i64 pn, .string pp] := Box.new wr _ _
    have aG := zG.alloc (.cells #[.int .i64 pid, .int .i64 pk, .int .i64 pn, .string pp] 92)
    have aR := hR.alloc (.cells #[.int .i64 pid, .int .i64 pk, .int .i64 pn, .string pp] 92)
    have hpw : (wr.alloc (.cells #[.int .i64 pid, .int .i64 pk, .int .i64 pn, .string pp] 92)).cell? ⟨pg, po + (q - 1) * 4, none⟩ = some (.int .i64 y) := by
     rw [World.cell?_of_block (w := wr) (Below.heap_alloc wr _ pg hgpl)]; exact Hpv.out
    have hGP : w1.heap.size < wr.heap.size := zG.lt
    have hpgl : pg < (wr.alloc (.cells #[.int .i64 pid, .int .i64 pk, .int .i64 pn, .string pp] 92)).heap.size := by go_light; simp; omega
    clear q0 q1 q2 q3 hgpl Hpv zB zT zR zG hR hw
    generalize hWa : wr.alloc (.cells #[.int .i64 pid, .int .i64 pk, .int .i64 pn, .string pp] 92) = Wa at *
    generalize hPa : wr.heap.size = P at *
    clear hWa hPa wr
    have Hpw := Lib.hid hpw
    clear hpw
    have hlP := aP.lt
    go_cut [53] from 41 to 53 (fun s wx => s = .bool fl ∧ wx = Wa.drew)
    case first =>
     have p0 : Wa.cell? ⟨P, 0, none⟩ = some (.int .i64 pid) := aP.cell 0
     by_cases hq0 : 0 < q
     ·have pw := Hpw.out
      have e1 : IntKind.i64.wrap ((q : Int) - 1) = (q : Int) - 1 := IntWalk.i64_in _ (by go_light; omega)
      have e2 : ((q : Int) - 1).toNat = q - 1 := by go_light; omega
      have e3 : decide (0 < q) = true := by go_light; simp; omega
      have e4 : (1 : Int) ≤ q := by go_light; omega
      have e5 : (q : Int) - 1 < ps.length := by go_light; omega
      have hS : Wa.drew.cell? ⟨pg, po + (q - 1) * 4, none⟩ = some (.int .i64 y) ∧ Wa.drew.cell? ⟨P, 0, none⟩ = some (.int .i64 pid) := ⟨pw, p0⟩
      clear pw p0
      refine late_start (lt := 13) (hm := by kernel_rfl) (h := ?_) (S := fun W' => W'.cell? ⟨pg, po + (q - 1) * 4, none⟩ = some (.int .i64 y) ∧ W'.cell? ⟨P, 0, none⟩ = some (.int .i64 pid))
      refine tkL 0 hS ?_
      try simp only [pu]
      refine tkL 1 hS ?_
      try simp only [pu]
      refine tkL 2 hS ?_
      try simp only [pu]
      refine tkL 3 hS ?_
      try simp only [pu]
      refine tkL 4 hS ?_
      try simp only [pu]
      refine tkL 5 hS ?_
      try simp only [pu]
      refine tkL 6 hS ?_
      try simp only [pu]
      refine tkL 7 hS ?_
      try simp only [pu]
      refine tkL 8 hS ?_
      try simp only [pu]
      refine tkL 9 hS ?_
      try simp only [pu]
      refine tkL 10 hS ?_
      try simp only [pu]
      refine tkL 11 hS ?_
      try simp only [pu]
      refine tkL 12 hS ?_
      try simp only [pu]
      refine late_done (by kernel_rfl) ?_ _
      go_show
      go_wp2_with fail
      go_show
      go_meet
      case rel => exact ⟨by rw [Hfn.out hq0], rfl⟩
     ·have e3 : decide (0 < q) = false := by go_light; simp; omega
      have hS : True := trivial
      refine late_start (lt := 13) (hm := by kernel_rfl) (h := ?_) (S := fun _ => True)
      refine tkL 0 hS ?_
      try simp only [pu]
      refine tkL 1 hS ?_
      try simp only [pu]
      refine tkL 2 hS ?_
      try simp only [pu]
      refine skL 3 hS ?_
      try simp only [pu]
      refine skL 4 hS ?_
      try simp only [pu]
      refine skL 5 hS ?_
      try simp only [pu]
      refine skL 6 hS ?_
      try simp only [pu]
      refine skL 7 hS ?_
      try simp only [pu]
      refine skL 8 hS ?_
      try simp only [pu]
      refine skL 9 hS ?_
      try simp only [pu]
      refine skL 10 hS ?_
      try simp only [pu]
      refine skL 11 hS ?_
      try simp only [pu]
      refine tkL 12 hS ?_
      try simp only [pu]
      refine late_done (by kernel_rfl) ?_ _
      go_wp2_with fail
      go_meet
      case rel => exact ⟨by rw [Hf0.out hq0], rfl⟩
    case rest =>
     obtain ⟨rfl, rfl⟩ := hcut
     clear Hfn Hf0 Hpw hpgl hSp hgp
     replace aP := aP.drew
     replace aG := aG.drew
     replace aR := aR.drew
     replace hwa := below_drew hwa
     generalize hWb : Wa.drew = Wb at *
     clear hWb hlP Wa
     have hlP := aP.lt
     have aT := y2.below hwa y2.lt
     have aV := y3.below hwa y3.lt
     cases fl with
     | true =>
      have Hno := Lib.hid (show r = (.zero, 1) from by rw [Hr.out, Hst.out]; simp)
      obtain ⟨r0, r1, r2, r3, r4⟩ := aV.five
      have g0 := aV.frozen 0
      have g1 := aV.frozen 1
      have g2 := aV.frozen 2
      have g3 := aV.frozen 3
      have g4 := aV.frozen 4
      have hlr := aV.lt
      have hwb := below_via hw1 hwa hw1.size
      go_wp2_with fail
      change bodyPost _ _ _ _ _ (setCells Wb (w.heap.size + 1 + 1) 0 [.int .i64 0, .int .i64 0, .string ⟨#[]⟩, .slice none 0 0, .slice none 0 0])
      have hb5 := aV.setCells [.int .i64 0, .int .i64 0, .string ⟨#[]⟩, .slice none 0 0, .slice none 0 0] rfl
      have hw5 := below_setCells (g := (w.heap.size + 1 + 1)) (by go_light; omega) [.int .i64 0, .int .i64 0, .string ⟨#[]⟩, .slice none 0 0, .slice none 0 0] 0 _ hwb
      generalize setCells Wb (w.heap.size + 1 + 1) 0 _ = W5 at hb5 hw5 ⊢
      rw [Hno.out]
      exact bodyPost_ret (decode_results hb5 rfl rfl) rfl ⟨_, rfl, RVal.zero, hw5⟩
     | false =>
      rw [if_neg (by simp)] at Hst
      obtain ⟨t0, t1, t2, t3, t4⟩ := aT.five
      have hlT := aT.lt
      have p0 : Wb.cell? ⟨P, 0, none⟩ = some (.int .i64 pid) := aP.cell 0
      have HTb := Lib.hid (RType.fair.below HT1.out hwa)
      go_wp2_with fail
      refine (fieldOf_out S _ t pid _ HTb.out).mono ?_
      rintro e w2 ⟨fx, hfx, rfl, hb2⟩
      obtain ⟨so, hso⟩ : ∃ so, so = (fieldOf t pid).isSome := ⟨_, rfl⟩
      rw [← hso]
      have hwc := below_via hwa hb2 hwa.size
      have cP := aP.below hb2 aP.lt
      have cG := aG.below hb2 aG.lt
      have cR := aR.below hb2
      have hGc : w1.heap.size < w2.heap.size := cG.lt
      have hPc : P < w2.heap.size := cP.lt
      clear t0 t1 t2 t3 t4 hlT p0 aT aV aP aG aR hwa hb2 hlP HTb Wb
      cases so with
      | false =>
       rw [opt_none hso.symm] at Hst
       have Hgo : Hid (decGo b rec t (lastP ps (q + 1)) (ps.drop (q + 1)) ai al = DG) := (show _ = _ from Hst.out.symm)
       clear Hst hso hfx
       go_wp2_with fail
       have hq := Hq.out
       have hll := Hll.out
       go_roundg (gk - 1)
       case measure => go_light; omega
       case rel => first | exact ⟨q + 1, ai, al, vi, vl, by go_num, by go_light; omega, Hgo, hll, by go_light; omega, cR.alloc _, cG.alloc _, hwc.alloc hwc.size _⟩ | ((repeat apply Exists.intro); exact ⟨⟨q + 1, ai, al, vi, vl, by go_num, by go_light; omega, Hgo, hll, by go_light; omega, cR.alloc _, cG.alloc _, hwc.alloc hwc.size _⟩, rfl⟩)
      | true =>
       have hsome := opt_some hso.symm hfx.out
       rw [hsome] at Hst
       have hfp : fieldP b fx := msg_field HM.out (fieldOf_some hsome).1
       obtain ⟨fid, fname, ftype, fkind, frule⟩ := fx
       have Hfp := Lib.hid hfp
       dsimp only at Hst
       clear hso hfx hsome hfp
       have p1 : w2.cell? ⟨P, 1, none⟩ = some (.int .i64 pk) := cP.cell 1
       have p2 : w2.cell? ⟨P, 2, none⟩ = some (.int .i64 pn) := cP.cell 2
       go_upto_if 71 with fail
       clear p1 p2
       have hwd := (hwc.alloc hwc.size (.cells #[.int .i64 fid, .string fname, .string ftype, .int .i64 fkind, .int .i64 frule] 56)).alloc (by go_light; have := hwc.size; simp; omega) (.cells #[.int .i64 pk, .int .i64 pn, .string ⟨#[]⟩, .slice none 0 0, .slice none 0 0] 28)
       have dF : Box ((w2.alloc (.cells #[.int .i64 fid, .string fname, .string ftype, .int .i64 fkind, .int .i64 frule] 56)).alloc (.cells #[.int .i64 pk, .int .i64 pn, .string ⟨#[]⟩, .slice none 0 0, .slice none 0 0] 28)) w2.heap.size 56 [.int .i64 fid, .string fname, .string ftype, .int .i64 fkind, .int .i64 frule] := (Box.new w2 _ _).alloc _
       have dX : Box ((w2.alloc (.cells #[.int .i64 fid, .string fname, .string ftype, .int .i64 fkind, .int .i64 frule] 56)).alloc (.cells #[.int .i64 pk, .int .i64 pn, .string ⟨#[]⟩, .slice none 0 0, .slice none 0 0] 28)) (w2.heap.size + 1) 28 [.int .i64 pk, .int .i64 pn, .string ⟨#[]⟩, .slice none 0 0, .slice none 0 0] := by
        have := Box.new (w2.alloc (.cells #[.int .i64 fid, .string fname, .string ftype, .int .i64 fkind, .int .i64 frule] 56)) 28 [.int .i64 pk, .int .i64 pn, .string ⟨#[]⟩, .slice none 0 0, .slice none 0 0]
        simpa using this
       have dP := (cP.alloc (.cells #[.int .i64 fid, .string fname, .string ftype, .int .i64 fkind, .int .i64 frule] 56)).alloc (.cells #[.int .i64 pk, .int .i64 pn, .string ⟨#[]⟩, .slice none 0 0, .slice none 0 0] 28)
       have dG := (cG.alloc (.cells #[.int .i64 fid, .string fname, .string ftype, .int .i64 fkind, .int .i64 frule] 56)).alloc (.cells #[.int .i64 pk, .int .i64 pn, .string ⟨#[]⟩, .slice none 0 0, .slice none 0 0] 28)
       have dR := (cR.low.alloc (.cells #[.int .i64 fid, .string fname, .string ftype, .int .i64 fkind, .int .i64 frule] 56)).alloc (.cells #[.int .i64 pk, .int .i64 pn, .string ⟨#[]⟩, .slice none 0 0, .slice none 0 0] 28)
       have hvB : Hid (∀ y, vi.ownBlock = some y → y < w2.heap.size) := (show ∀ y, vi.ownBlock = some y → y < w2.heap.size from fun y hy => (cR.ilt hy).2)
       have hlV : Hid (∀ y, vl.ownBlock = some y → y < w2.heap.size) := (show ∀ y, vl.ownBlock = some y → y < w2.heap.size from fun y hy => (cR.llt hy).2)
       clear cP cG cR hwc
       generalize hWd : (w2.alloc (.cells #[.int .i64 fid, .string fname, .string ftype, .int .i64 fkind, .int .i64 frule] 56)).alloc (.cells #[.int .i64 pk, .int .i64 pn, .string ⟨#[]⟩, .slice none 0 0, .slice none 0 0] 28) = Wd at *
       generalize hX : w2.heap.size + 1 = X at *
       generalize hF : w2.heap.size = F at *
       have HX : Hid (F + 1 = X) := hX
       have hXF : F < X := by go_light; omega
       clear hWd hF hX
       go_cut [] from 71 to 74 (fun wx => ∃ xs, Hid (xs = if pk = 1 then pp else ⟨#[]⟩) ∧ Box wx X 28 [.int .i64 pk, .int .i64 pn, .string xs, .slice none 0 0, .slice none 0 0] ∧ Box wx F 56 [.int .i64 fid, .string fname, .string ftype, .int .i64 fkind, .int .i64 frule] ∧ Box wx P 92 [.int .i64 pid, .int .i64 pk, .int .i64 pn, .string pp] ∧ Box wx w1.heap.size 28 [.int .i64 2, .int .i64 0, .string ⟨#[]⟩, vi, vl] ∧ Rows2 (fun y => w1.heap.size + 1 ≤ y ∧ y < F) (w1.heap.size + 1) wx w1.heap.size vi vl ai al ∧ Below w1.heap.size w1 wx)
       case first =>
        by_cases hpk : pk = 1
        ·have hpb : (pk == 1) = true := by simpa using hpk
         have p3 : Wd.cell? ⟨P, 3, none⟩ = some (.string pp) := dP.cell 3
         have hlp := dP.lt
         have f2 := dX.frozen 2
         have x2 : Wd.cell? ⟨X, 2, none⟩ = some (.string ⟨#[]⟩) := dX.cell 2
         have hlx := dX.lt
         have rel : Hid (∃ xs, Hid (xs = if pk = 1 then pp else ⟨#[]⟩) ∧ Box (Wd.setCell ⟨X, 2, none⟩ (.string pp)) X 28 [.int .i64 pk, .int .i64 pn, .string xs, .slice none 0 0, .slice none 0 0] ∧ Box (Wd.setCell ⟨X, 2, none⟩ (.string pp)) F 56 [.int .i64 fid, .string fname, .string ftype, .int .i64 fkind, .int .i64 frule] ∧ Box (Wd.setCell ⟨X, 2, none⟩ (.string pp)) P 92 [.int .i64 pid, .int .i64 pk, .int .i64 pn, .string pp] ∧ Box (Wd.setCell ⟨X, 2, none⟩ (.string pp)) w1.heap.size 28 [.int .i64 2, .int .i64 0, .string ⟨#[]⟩, vi, vl] ∧ Rows2 (fun y => w1.heap.size + 1 ≤ y ∧ y < F) (w1.heap.size + 1) (Wd.setCell ⟨X, 2, none⟩ (.string pp)) w1.heap.size vi vl ai al ∧ Below w1.heap.size w1 (Wd.setCell ⟨X, 2, none⟩ (.string pp))) :=
          ⟨pp, (show pp = if pk = 1 then pp else ⟨#[]⟩ from by rw [if_pos hpk]), dX.set_ 2 _, dF.far (p := ⟨X, 2, none⟩) (by go_light; simp; omega) _, dP.far (p := ⟨X, 2, none⟩) (by go_light; simp; omega) _, dG.far (p := ⟨X, 2, none⟩) (by go_light; simp; omega) _, dR.far (p := ⟨X, 2, none⟩) (fun e => by go_light; have := hvB.out _ e; simp at this; omega) (fun e => by go_light; have := hlV.out _ e; simp at this; omega) (fun e => by go_light; have := e.2; simp at this; omega) _, hwd.setCell (p := ⟨X, 2, none⟩) (by go_light; simp; omega) _⟩
         clear hpk dX dF dP dG dR hwd
         go_wp2_with fail
         go_meet
         case rel => exact rel.out
        ·have hpb : (pk == 1) = false := by simpa using hpk
         have rel : Hid (∃ xs, Hid (xs = if pk = 1 then pp else ⟨#[]⟩) ∧ Box Wd X 28 [.int .i64 pk, .int .i64 pn, .string xs, .slice none 0 0, .slice none 0 0] ∧ Box Wd F 56 [.int .i64 fid, .string fname, .string ftype, .int .i64 fkind, .int .i64 frule] ∧ Box Wd P 92 [.int .i64 pid, .int .i64 pk, .int .i64 pn, .string pp] ∧ Box Wd w1.heap.size 28 [.int .i64 2, .int .i64 0, .string ⟨#[]⟩, vi, vl] ∧ Rows2 (fun y => w1.heap.size + 1 ≤ y ∧ y < F) (w1.heap.size + 1) Wd w1.heap.size vi vl ai al ∧ Below w1.heap.size w1 Wd) :=
          ⟨⟨#[]⟩, (show ⟨#[]⟩ = if pk = 1 then pp else ⟨#[]⟩ from by rw [if_neg hpk]), dX, dF, dP, dG, dR, hwd⟩
         clear hpk dX dF dP dG dR hwd
         go_wp2_with fail
         go_meet
         case rel => exact rel.out
       case rest =>
        obtain ⟨xs, hxs, eX, eF, eP, eG, eR, hwe⟩ := hcut
        have hbv : bareV ⟨pid, pk, pn, pp⟩ = .mk pk pn xs [] [] := by unfold bareV; rw [hxs.out]
        have hxz : xs.size ≤ 20000 := by
         rw [hxs.out]
         split
         ·exact Hpz.out
         ·decide
        rw [hbv] at Hst
        clear dX dF dP dG dR hwd Wd hbv hxs
        obtain ⟨v0, v1, v2, v3, v4⟩ := eF.five
        obtain ⟨z0, z1, z2, z3, z4⟩ := eX.five
        have eB := y1.below hwe y1.lt
        have b0 : wc.cell? ⟨w.heap.size, 0, none⟩ = some (.slice A b.length cap) := eB.cell 0
        have hlB := eB.lt
        have hlF := eF.lt
        have hlX := eX.lt
        have HBe := Lib.hid ((RSl.fair RType.fair).below HB1.out hwe)
        obtain ⟨fi, hfi⟩ : ∃ fi, fi = fitsF b ⟨fid, fname, ftype, fkind, frule⟩ (.mk pk pn xs [] []) := ⟨_, rfl⟩
        have hcall := fits_any S (fun _ => False) _ b ⟨fid, fname, ftype, fkind, frule⟩ _ (.mk pk pn xs [] []) wc HBe.out (RVal.plain pk pn xs) (by show xs.size ≤ _; omega)
        rw [← hfi] at hcall Hst
        have Hcall := Lib.hid hcall
        clear hcall hfi eB
        go_wp2_with fail
        refine Hcall.out.mono ?_
        rintro e w3 ⟨rfl, hb3⟩
        have hwf := below_via hwe hb3 hwe.size
        replace eX := eX.below hb3 eX.lt
        replace eF := eF.below hb3 eF.lt
        replace eP := eP.below hb3 eP.lt
        replace eG := eG.below hb3 eG.lt
        replace eR := eR.below hb3
        clear v0 v1 v2 v3 v4 z0 z1 z2 z3 z4 b0 hlB hlF hlX HBe Hcall hb3 hwe wc
        have aV := y3.below hwf y3.lt
        by_cases hfi0 : fi = 0
        ·subst hfi0
         rw [if_neg (by simp)] at Hst
         obtain ⟨hv, hhv⟩ : ∃ hv, hv = hasI ai pid := ⟨_, rfl⟩
         rw [← hhv] at Hst
         have Hhv := Lib.hid hhv
         clear hhv
         go_upto_region 20 with fail
         have v4 : w3.cell? ⟨F, 4, none⟩ = some (.int .i64 frule) := eF.cell 4
         have hlF := eF.lt
         go_cut [92] from 83 to 92 (fun s wx => s = .bool (decide (frule ≠ 3) && hv) ∧ wx = w3)
         case first =>
          by_cases hr3 : frule = 3
          ·have hrb : (frule != 3) = false := by simpa using hr3
           have hfin : Hid ((decide (frule ≠ 3) && hv) = false) := (show _ = _ from by simp [hr3])
           clear hr3
           go_wp2_with fail
           go_meet
           case rel => exact ⟨by rw [hfin.out], rfl⟩
          ·have hrb : (frule != 3) = true := by simpa using hr3
           have c3 : w3.cell? ⟨w1.heap.size, 3, none⟩ = some vi := eG.cell 3
           have hlG := eG.lt
           have p0 : w3.cell? ⟨P, 0, none⟩ = some (.int .i64 pid) := eP.cell 0
           have hlP := eP.lt
           have hfin : Hid ((decide (frule ≠ 3) && hv) = hv) := (show _ = _ from by simp [hr3])
           have Hrd : Hid (RSl 1 8 RInt (fun _ => True) w3 [vi] ai) := eR.ids.read RInt.fair (fun _ h => h.elim) (fun _ _ => trivial) (by go_light; omega)
           clear hr3
           go_wp2_with fail
           refine (has_any (fun _ => True) vi ai pid _ Hrd.out).mono ?_
           rintro e w' ⟨rfl, rfl⟩
           rw [← Hhv.out]
           go_wp2_with fail
           go_meet
           case rel => exact ⟨by rw [hfin.out], rfl⟩
         case rest =>
          obtain ⟨rfl, rfl⟩ := hcut
          clear v4 hlF Hhv
          obtain ⟨tw, htw⟩ : ∃ tw, tw = (decide (frule ≠ 3) && hv) := ⟨_, rfl⟩
          have hite : ∀ {α : Type} (x y : α), (if frule ≠ 3 ∧ hv = true then x else y) = if tw = true then x else y := by
           intro α x y
           rw [htw]
           by_cases h : frule = 3 <;> simp [h]
          rw [hite] at Hst
          rw [← htw]
          clear htw hite
          cases tw with
          | true =>
           have Hno := Lib.hid (show r = (.zero, 4) from by rw [Hr.out, Hst.out]; simp)
           obtain ⟨r0, r1, r2, r3, r4⟩ := aV.five
           have g0 := aV.frozen 0
           have g1 := aV.frozen 1
           have g2 := aV.frozen 2
           have g3 := aV.frozen 3
           have g4 := aV.frozen 4
           have hlr := aV.lt
           have hwb := below_via hw1 hwf hw1.size
           go_wp2_with fail
           change bodyPost _ _ _ _ _ (setCells wc (w.heap.size + 1 + 1) 0 [.int .i64 0, .int .i64 0, .string ⟨#[]⟩, .slice none 0 0, .slice none 0 0])
           have hb5 := aV.setCells [.int .i64 0, .int .i64 0, .string ⟨#[]⟩, .slice none 0 0, .slice none 0 0] rfl
           have hw5 := below_setCells (g := (w.heap.size + 1 + 1)) (by go_light; omega) [.int .i64 0, .int .i64 0, .string ⟨#[]⟩, .slice none 0 0, .slice none 0 0] 0 _ hwb
           generalize setCells wc (w.heap.size + 1 + 1) 0 _ = W5 at hb5 hw5 ⊢
           rw [Hno.out]
           exact bodyPost_ret (decode_results hb5 rfl rfl) rfl ⟨_, rfl, RVal.zero, hw5⟩
          | false =>
           rw [if_neg (by simp)] at Hst
           have v3 : wc.cell? ⟨F, 3, none⟩ = some (.int .i64 fkind) := eF.cell 3
           have hlF := eF.lt
           go_upto_if 96 with fail
           clear v3
           go_cut [] from 94 to 117 (fun wx => ∃ (xk xn : Int) (xs : ByteArray) (xi : List Int) (xl : List ValueD) (E1 : Option Addr) (f1 : Nat) (E2 : Option Addr) (f2 B : Nat),
            Hid (decGo b rec t (lastP ps (q + 1)) (ps.drop (q + 1)) (ai ++ [pid]) (al ++ [.mk xk xn xs xi xl]) = DG) ∧ Box wx X 28 [.int .i64 xk, .int .i64 xn, .string xs, .slice E1 xi.length f1, .slice E2 xl.length f2] ∧ RVal (fun y => B ≤ y) wx [.int .i64 xk, .int .i64 xn, .string xs, .slice E1 xi.length f1, .slice E2 xl.length f2] (.mk xk xn xs xi xl) ∧ w1.heap.size + 1 ≤ B ∧
            Hid (∀ y, vi.ownBlock = some y → y < B) ∧ Hid (∀ y, vl.ownBlock = some y → y < B) ∧ Box wx P 92 [.int .i64 pid, .int .i64 pk, .int .i64 pn, .string pp] ∧ Box wx w1.heap.size 28 [.int .i64 2, .int .i64 0, .string ⟨#[]⟩, vi, vl] ∧ Rows2 (fun y => w1.heap.size + 1 ≤ y) (w1.heap.size + 1) wx w1.heap.size vi vl ai al ∧ Below w1.heap.size w1 wx)
           case first =>
            by_cases hk5 : fkind = 5
            ·have hkb : (fkind == 5) = true := by simpa using hk5
             rw [if_pos hk5] at Hst
             obtain ⟨ty0, hfT, htO, htm, htn, hte, -⟩ := field_msg HG.out Hfp.out hk5
             clear hk5
             dsimp only at hfT htO htn
             have eB := y1.below hwf y1.lt
             have b0 : wc.cell? ⟨w.heap.size, 0, none⟩ = some (.slice A b.length cap) := eB.cell 0
             have hlB := eB.lt
             have v2 : wc.cell? ⟨F, 2, none⟩ = some (.string ftype) := eF.cell 2
             have HBg := Lib.hid ((RSl.fair RType.fair).below HB1.out hwf)
             have Hty := Lib.hid (show ty0 ∈ b ∧ findT b ty0.name = some ty0 ∧ ty0.enum = false from ⟨htm, by rw [htn]; exact hfT, hte⟩)
             have hrd : rec ty0 (bytes pp) = decV b k ty0 (bytes pp) := by rw [Hrec.out]
             rw [htO, hrd] at Hst
             clear hrd
             have hfc := find_any S _ b ftype wc HBg.out
             rw [hfT] at hfc
             have Hfc := Lib.hid hfc
             obtain ⟨dv, hdv⟩ : ∃ dv, dv = decV b k ty0 (bytes pp) := ⟨_, rfl⟩
             have hih := fun (cst : List Value) (W : World) (h0 : RSl 5 96 RType S W [.slice A b.length cap] b) (h1 : RType S W cst ty0) => IH.out cst ty0 pp W (by go_light; have := hd; omega) (by go_light; omega) h0 h1 Hty.out.1 Hty.out.2.1 Hty.out.2.2 (by have := Hpz.out; unfold maxLen; omega)
             rw [← hdv] at Hst hih
             have Hih := Lib.hid hih
             have e1 : IntKind.i64.wrap (d + 1) = d + 1 := IntWalk.i64_in _ (by go_light; omega)
             clear hfT htO htm htn hte hfc hdv hih eB
             go_wp2_with fail
             refine Hfc.out.mono ?_
             rintro e w4 ⟨cs4, rfl, hr4, hb4⟩
             dsimp only [Option.getD_some, Option.isSome_some] at hr4 ⊢
             obtain ⟨G1, g1, G2, g2, G3, g3, rfl, -, -, -⟩ := hr4.parts
             have hwg := below_via hwf hb4 hwf.size
             replace eX := eX.below hb4 eX.lt
             replace eF := eF.below hb4 eF.lt
             replace eP := eP.below hb4 eP.lt
             replace eG := eG.below hb4 eG.lt
             replace eR := eR.below hb4
             have hr4' := RType.fair.below hr4 hb4
             clear b0 hlB v2 hlF HBg Hfc hr4 hb4 hwf aV wc
             have eB := y1.below hwg y1.lt
             have b0 : w4.cell? ⟨w.heap.size, 0, none⟩ = some (.slice A b.length cap) := eB.cell 0
             have hlB := eB.lt
             have p3 : w4.cell? ⟨P, 3, none⟩ = some (.string pp) := eP.cell 3
             have hlP := eP.lt
             have hwh := hwg.alloc hwg.size (.cells #[.string ty0.name, .bool ty0.enum, .slice G1 ty0.fields.length g1, .slice G2 ty0.gone.length g2, .slice G3 ty0.items.length g3] 52)
             have HBg := Lib.hid ((RSl.fair RType.fair).below HB1.out hwh)
             have HTg := Lib.hid (RType.fair.keep hr4' (Keep.alloc S w4 (.cells #[.string ty0.name, .bool ty0.enum, .slice G1 ty0.fields.length g1, .slice G2 ty0.gone.length g2, .slice G3 ty0.items.length g3] 52)))
             replace eX := eX.alloc (.cells #[.string ty0.name, .bool ty0.enum, .slice G1 ty0.fields.length g1, .slice G2 ty0.gone.length g2, .slice G3 ty0.items.length g3] 52)
             replace eP := eP.alloc (.cells #[.string ty0.name, .bool ty0.enum, .slice G1 ty0.fields.length g1, .slice G2 ty0.gone.length g2, .slice G3 ty0.items.length g3] 52)
             replace eG := eG.alloc (.cells #[.string ty0.name, .bool ty0.enum, .slice G1 ty0.fields.length g1, .slice G2 ty0.gone.length g2, .slice G3 ty0.items.length g3] 52)
             replace eR := eR.alloc (.cells #[.string ty0.name, .bool ty0.enum, .slice G1 ty0.fields.length g1, .slice G2 ty0.gone.length g2, .slice G3 ty0.items.length g3] 52)
             clear hr4' eB hwg eF
             go_wp2_with fail
             refine (Hih.out _ _ HBg.out HTg.out).mono ?_
             rintro e w6 ⟨cs6, rfl, hr6, hb6⟩
             have hw6 := below_via hwh hb6 hwh.size
             have hXl := eX.lt
             have hB6 := eR.hb
             have hvB2 : Hid (∀ y, vi.ownBlock = some y → y < (w4.alloc (.cells #[.string ty0.name, .bool ty0.enum, .slice G1 ty0.fields.length g1, .slice G2 ty0.gone.length g2, .slice G3 ty0.items.length g3] 52)).heap.size) := (show ∀ y, vi.ownBlock = some y → y < (w4.alloc (.cells #[.string ty0.name, .bool ty0.enum, .slice G1 ty0.fields.length g1, .slice G2 ty0.gone.length g2, .slice G3 ty0.items.length g3] 52)).heap.size from fun y hy => (eR.ilt hy).2)
             have hlB2 : Hid (∀ y, vl.ownBlock = some y → y < (w4.alloc (.cells #[.string ty0.name, .bool ty0.enum, .slice G1 ty0.fields.length g1, .slice G2 ty0.gone.length g2, .slice G3 ty0.items.length g3] 52)).heap.size) := (show ∀ y, vl.ownBlock = some y → y < (w4.alloc (.cells #[.string ty0.name, .bool ty0.enum, .slice G1 ty0.fields.length g1, .slice G2 ty0.gone.length g2, .slice G3 ty0.items.length g3] 52)).heap.size from fun y hy => (eR.llt hy).2)
             have sX := eX.below hb6 eX.lt
             have sP := eP.below hb6 eP.lt
             have sG := eG.below hb6 eG.lt
             have sR := eR.below hb6
             obtain ⟨⟨xk, xn, xs, xi, xl⟩, dc⟩ := dv
             dsimp only at hr6 Hst ⊢
             obtain ⟨E1, f1, E2, f2, rfl, -, -⟩ := hr6.parts
             unfold New at hr6
             generalize hB : (w4.alloc (.cells #[.string ty0.name, .bool ty0.enum, .slice G1 ty0.fields.length g1, .slice G2 ty0.gone.length g2, .slice G3 ty0.items.length g3] 52)).heap.size = B at *
             clear hB b0 hlB p3 hlP HBg HTg Hih eX eP eG eR hb6 hwh e1
             have aV := y3.below hw6 y3.lt
             by_cases hdc : dc = 0
             ·subst hdc
              rw [if_neg (by simp)] at Hst
              have rel : Hid (Hid (decGo b rec t (lastP ps (q + 1)) (ps.drop (q + 1)) (ai ++ [pid]) (al ++ [.mk xk xn xs xi xl]) = DG) ∧ Box (setCells w6 X 0 [.int .i64 xk, .int .i64 xn, .string xs, .slice E1 xi.length f1, .slice E2 xl.length f2]) X 28 [.int .i64 xk, .int .i64 xn, .string xs, .slice E1 xi.length f1, .slice E2 xl.length f2] ∧ RVal (fun y => B ≤ y) (setCells w6 X 0 [.int .i64 xk, .int .i64 xn, .string xs, .slice E1 xi.length f1, .slice E2 xl.length f2]) [.int .i64 xk, .int .i64 xn, .string xs, .slice E1 xi.length f1, .slice E2 xl.length f2] (.mk xk xn xs xi xl) ∧ w1.heap.size + 1 ≤ B ∧
               Hid (∀ y, vi.ownBlock = some y → y < B) ∧ Hid (∀ y, vl.ownBlock = some y → y < B) ∧ Box (setCells w6 X 0 [.int .i64 xk, .int .i64 xn, .string xs, .slice E1 xi.length f1, .slice E2 xl.length f2]) P 92 [.int .i64 pid, .int .i64 pk, .int .i64 pn, .string pp] ∧ Box (setCells w6 X 0 [.int .i64 xk, .int .i64 xn, .string xs, .slice E1 xi.length f1, .slice E2 xl.length f2]) w1.heap.size 28 [.int .i64 2, .int .i64 0, .string ⟨#[]⟩, vi, vl] ∧ Rows2 (fun y => w1.heap.size + 1 ≤ y) (w1.heap.size + 1) (setCells w6 X 0 [.int .i64 xk, .int .i64 xn, .string xs, .slice E1 xi.length f1, .slice E2 xl.length f2]) w1.heap.size vi vl ai al ∧ Below w1.heap.size w1 (setCells w6 X 0 [.int .i64 xk, .int .i64 xn, .string xs, .slice E1 xi.length f1, .slice E2 xl.length f2])) :=
               ⟨(show _ = _ from Hst.out.symm), sX.setCells _ rfl, RVal.fair.keep hr6 (Keep.setCells (by go_light; omega) _ _ _), hB6, hvB2, hlB2, Box.farCells (by go_light; omega) _ _ sP, Box.farCells (by go_light; omega) _ _ sG, (Rows2.farCells (fun e => by go_light; have := hvB.out _ e; omega) (fun e => by go_light; have := hlV.out _ e; omega) (fun e => by go_light; have := e.2; omega) _ _ sR).up (fun _ h => h.1), below_setCells (by go_light; omega) _ _ _ hw6⟩
              obtain ⟨r0, r1, r2, r3, r4⟩ := sX.five
              have g0 := sX.frozen 0
              have g1 := sX.frozen 1
              have g2 := sX.frozen 2
              have g3 := sX.frozen 3
              have g4 := sX.frozen 4
              have hlr := sX.lt
              clear hr6 sX sP sG sR hw6 aV hvB2 hlB2
              go_wp2_with fail
              change Met _ _ (setCells w6 X 0 [.int .i64 xk, .int .i64 xn, .string xs, .slice E1 xi.length f1, .slice E2 xl.length f2])
              go_meet
              case rel => exact ⟨xk, xn, xs, xi, xl, E1, f1, E2, f2, B, rel.out⟩
             ·have hcb : (dc != 0) = true := by simpa using hdc
              rw [if_pos hdc] at Hst
              have Hno := Lib.hid (show r = (.zero, dc) from by rw [Hr.out, Hst.out]; simp [hdc])
              obtain ⟨r0, r1, r2, r3, r4⟩ := sX.five
              have g0 := sX.frozen 0
              have g1 := sX.frozen 1
              have g2 := sX.frozen 2
              have g3 := sX.frozen 3
              have g4 := sX.frozen 4
              have hlr := sX.lt
              have tV := Box.farCells (g' := X) (by go_light; omega) [.int .i64 xk, .int .i64 xn, .string xs, .slice E1 xi.length f1, .slice E2 xl.length f2] 0 aV
              have hwb := below_via hw1 (below_setCells (g := X) (by go_light; omega) [.int .i64 xk, .int .i64 xn, .string xs, .slice E1 xi.length f1, .slice E2 xl.length f2] 0 _ hw6) hw1.size
              obtain ⟨q0, q1, q2, q3, q4⟩ := tV.five
              have s0 := tV.frozen 0
              have s1 := tV.frozen 1
              have s2 := tV.frozen 2
              have s3 := tV.frozen 3
              have s4 := tV.frozen 4
              have hlq := tV.lt
              simp only [setCells] at q0 q1 q2 q3 q4 s0 s1 s2 s3 s4 hlq
              clear hdc hr6 sX sP sG sR
              go_wp2_with fail
              change bodyPost _ _ _ _ _ (setCells (setCells w6 X 0 [.int .i64 xk, .int .i64 xn, .string xs, .slice E1 xi.length f1, .slice E2 xl.length f2]) (w.heap.size + 1 + 1) 0 [.int .i64 0, .int .i64 0, .string ⟨#[]⟩, .slice none 0 0, .slice none 0 0])
              have hb5 := tV.setCells [.int .i64 0, .int .i64 0, .string ⟨#[]⟩, .slice none 0 0, .slice none 0 0] rfl
              have hw5 := below_setCells (g := (w.heap.size + 1 + 1)) (by go_light; omega) [.int .i64 0, .int .i64 0, .string ⟨#[]⟩, .slice none 0 0, .slice none 0 0] 0 _ hwb
              generalize setCells (setCells w6 X 0 [.int .i64 xk, .int .i64 xn, .string xs, .slice E1 xi.length f1, .slice E2 xl.length f2]) (w.heap.size + 1 + 1) 0 _ = W5 at hb5 hw5 ⊢
              rw [Hno.out]
              exact bodyPost_ret (decode_results hb5 rfl rfl) rfl ⟨_, rfl, RVal.zero, hw5⟩
            ·have hkb : (fkind == 5) = false := by simpa using hk5
             rw [if_neg hk5] at Hst
             have rel : Hid (∃ (xk xn : Int) (xs : ByteArray) (xi : List Int) (xl : List ValueD) (E1 : Option Addr) (f1 : Nat) (E2 : Option Addr) (f2 B : Nat),
              Hid (decGo b rec t (lastP ps (q + 1)) (ps.drop (q + 1)) (ai ++ [pid]) (al ++ [.mk xk xn xs xi xl]) = DG) ∧ Box wc X 28 [.int .i64 xk, .int .i64 xn, .string xs, .slice E1 xi.length f1, .slice E2 xl.length f2] ∧ RVal (fun y => B ≤ y) wc [.int .i64 xk, .int .i64 xn, .string xs, .slice E1 xi.length f1, .slice E2 xl.length f2] (.mk xk xn xs xi xl) ∧ w1.heap.size + 1 ≤ B ∧
              Hid (∀ y, vi.ownBlock = some y → y < B) ∧ Hid (∀ y, vl.ownBlock = some y → y < B) ∧ Box wc P 92 [.int .i64 pid, .int .i64 pk, .int .i64 pn, .string pp] ∧ Box wc w1.heap.size 28 [.int .i64 2, .int .i64 0, .string ⟨#[]⟩, vi, vl] ∧ Rows2 (fun y => w1.heap.size + 1 ≤ y) (w1.heap.size + 1) wc w1.heap.size vi vl ai al ∧ Below w1.heap.size w1 wc) :=
              ⟨pk, pn, xs, [], [], none, 0, none, 0, F, (show _ = _ from Hst.out.symm), eX, RVal.plain pk pn xs, by go_light; omega, hvB, hlV, eP, eG, eR.up (fun _ h => h.1), hwf⟩
             clear hk5
             go_wp2_with fail
             go_meet
             case rel => exact rel.out
           case rest =>
            obtain ⟨xk, xn, xs, xi, xl, E1, f1, E2, f2, B, Hgo, zX, hrx, hB, hvB0, hlB0, zP, zG, hR, hw⟩ := hcut
            have hvB := hvB0.out
            have hlB := hlB0.out
            have HXr := Lib.hid (RVal.fair.mono hrx (T := fun y => B ≤ y ∧ y < wc.heap.size) (fun y hy hl => ⟨hy, hl⟩))
            have hn1 : ∀ k, vi.ownBlock = some k → ¬ (B ≤ k ∧ k < wc.heap.size) := fun k hk h => by have := hvB k hk; go_light; omega
            have hnX : vl.ownBlock ≠ some X := fun e => by have := hlV.out _ e; go_light; omega
            have hal : al.length ≤ q := by have := Hll.out; go_light; omega
            clear hrx hvB0 hlB0 hwf aV eX eF eP eG eR hlF
            go_wp2_with fail
            have HSK : Hid (∀ W', Box W' w1.heap.size 28 [.int .i64 2, .int .i64 0, .string ⟨#[]⟩, vi, vl] → Box W' X 28 [.int .i64 xk, .int .i64 xn, .string xs, .slice E1 xi.length f1, .slice E2 xl.length f2] → Box W' P 92 [.int .i64 pid, .int .i64 pk, .int .i64 pn, .string pp] → (fun W' => (W'.cell? ⟨w1.heap.size, 3, none⟩ = some vi ∧ W'.cell? ⟨w1.heap.size, 4, none⟩ = some vl) ∧ W'.cell? ⟨P, 0, none⟩ = some (.int .i64 pid) ∧ (W'.cell? ⟨X, 0, none⟩ = some (.int .i64 xk) ∧ W'.cell? ⟨X, 1, none⟩ = some (.int .i64 xn) ∧ W'.cell? ⟨X, 2, none⟩ = some (.string xs) ∧ W'.cell? ⟨X, 3, none⟩ = some (.slice E1 xi.length f1) ∧ W'.cell? ⟨X, 4, none⟩ = some (.slice E2 xl.length f2))) W') := fun W' h1 h2 h3 => ⟨⟨h1.cell 3, h1.cell 4⟩, h3.cell 0, h2.five⟩
            replace hR := hR.drew
            replace zG := zG.drew
            replace zP := zP.drew
            replace zX := zX.drew
            replace hw := below_drew hw
            have hdr : wc.drew.heap.size = wc.heap.size := rfl
            have hS := trivial
            replace hS := HSK.out _ zG zX zP
            refine late_start (fun W' => (W'.cell? ⟨w1.heap.size, 3, none⟩ = some vi ∧ W'.cell? ⟨w1.heap.size, 4, none⟩ = some vl) ∧ W'.cell? ⟨P, 0, none⟩ = some (.int .i64 pid) ∧ (W'.cell? ⟨X, 0, none⟩ = some (.int .i64 xk) ∧ W'.cell? ⟨X, 1, none⟩ = some (.int .i64 xn) ∧ W'.cell? ⟨X, 2, none⟩ = some (.string xs) ∧ W'.cell? ⟨X, 3, none⟩ = some (.slice E1 xi.length f1) ∧ W'.cell? ⟨X, 4, none⟩ = some (.slice E2 xl.length f2))) 12 (by kernel_rfl) ?_
            refine tkL 0 hS ?_
            try simp only [pu]
            refine tkL 1 hS ?_
            try simp only [pu]
            refine tkL 2 hS ?_
            try simp only [pu]
            refine tkL 3 hS ?_
            try simp only [pu]
            refine tkL 6 hS ?_
            try simp only [pu]
            refine tkL 7 hS ?_
            try simp only [pu]
            refine tkL 8 hS ?_
            try simp only [pu]
            refine late_two (i := 4) (j := 9) rfl rfl (by kernel_rfl) (fun K hK => ?_) (fun K hK => ?_)
            ·go_simp
             have hZ1 := Box.newB hw 3 [.int .i64 pid]
             try simp only [World.size_alloc] at hZ1
             replace hR := hR.alloc (.cells #[.int .i64 pid] 3)
             replace zG := zG.alloc (.cells #[.int .i64 pid] 3)
             replace zP := zP.alloc (.cells #[.int .i64 pid] 3)
             (first | (replace zX := zX.alloc (.cells #[.int .i64 pid] 3)) | (replace zX := zX.grown hg5 hnX))
             (first | (replace hZ2 := hZ2.alloc (.cells #[.int .i64 pid] 3)) | skip)
             replace hw := hw.alloc hw.size (.cells #[.int .i64 pid] 3)
             replace hS := HSK.out _ zG zX zP
             refine hK.out _ _ (fun _ => hS) ?_
             clear hK K
             try simp only [pu]
             refine late_two (i := 5) (j := 9) rfl rfl (by kernel_rfl) (fun K hK => ?_) (fun K hK => ?_)
             ·refine step_append _ rfl (.tmp 119) (.tmp 122) rfl sl_ints RInt.fair rfl rfl hR.ids (Src.one (es := [.int .i64 pid]) (y := pid) rfl (Ones.of_all rfl) rfl hZ1.lies) (NoT.lt _) (by go_light; simp; omega) hR.hb ?_
              intro v1 wk1 ho1 hg1 hv1
              have hR' := hR.push_id ho1 hg1 hv1
              replace zG := zG.grownR hR.ids (by first | exact .inl (by go_light; omega) | exact .inr (by decide)) hg1
              replace zP := zP.grownR hR.ids (by first | exact .inl (by go_light; omega) | exact .inr (by decide)) hg1
              (first | (replace zX := zX.grownR hR.ids (by first | exact .inl (by go_light; omega) | exact .inr (by decide)) hg1) | (replace zX := zX.grown hg5 hnX))
              (first | (replace hZ2 := hZ2.grownR hR.ids (.inr (by decide)) hg1) | skip)
              replace hw := below_grown hw hg1 hw.size (fun g' h => by go_light; have := (hR.ilt h).1; omega)
              replace hR := hR'
              clear hR'
              replace hS := HSK.out _ zG zX zP
              refine hK.out _ _ (fun _ => hS) ?_
              clear hK K
              try simp only [pu]
              refine tkL 11 hS ?_
              try simp only [pu]
              refine late_one (i := 9) rfl (by kernel_rfl) (fun K hK => ?_)
              go_simp
              have hZ2 := Box.newB hw 28 [.int .i64 xk, .int .i64 xn, .string xs, .slice E1 xi.length f1, .slice E2 xl.length f2]
              try simp only [World.size_alloc] at hZ2
              replace hR := hR.alloc (.cells [.int .i64 xk, .int .i64 xn, .string xs, .slice E1 xi.length f1, .slice E2 xl.length f2].toArray 28)
              replace zG := zG.alloc (.cells [.int .i64 xk, .int .i64 xn, .string xs, .slice E1 xi.length f1, .slice E2 xl.length f2].toArray 28)
              replace zP := zP.alloc (.cells [.int .i64 xk, .int .i64 xn, .string xs, .slice E1 xi.length f1, .slice E2 xl.length f2].toArray 28)
              (first | (replace zX := zX.alloc (.cells [.int .i64 xk, .int .i64 xn, .string xs, .slice E1 xi.length f1, .slice E2 xl.length f2].toArray 28)) | (replace zX := zX.grown hg5 hnX))
              (first | (replace hZ1 := hZ1.alloc (.cells [.int .i64 xk, .int .i64 xn, .string xs, .slice E1 xi.length f1, .slice E2 xl.length f2].toArray 28)) | skip)
              replace hw := hw.alloc hw.size (.cells [.int .i64 xk, .int .i64 xn, .string xs, .slice E1 xi.length f1, .slice E2 xl.length f2].toArray 28)
              replace hS := HSK.out _ zG zX zP
              refine hK.out _ _ (fun _ => hS) ?_
              clear hK K
              try simp only [pu]
              refine late_one (i := 10) rfl (by kernel_rfl) (fun K hK => ?_)
              refine step_append _ rfl (.tmp 125) (.tmp 127) rfl sl_vals RVal.fair rfl rfl hR.lrow (Src.one (es := [.int .i64 xk, .int .i64 xn, .string xs, .slice E1 xi.length f1, .slice E2 xl.length f2]) (y := ValueD.mk xk xn xs xi xl) rfl (Ones.of_all rfl) (hR.apart2 (RVal.fair.keep HXr.out (by first | exact (((Keep.drew _ _).trans (Keep.alloc _ _ _)).trans (Keep.of_grown hg1 hn1)).trans (Keep.alloc _ _ _) | exact (((Keep.drew _ _).trans (Keep.alloc _ _ _)).trans (Keep.alloc _ _ _)).trans (Keep.of_grown hg1 hn1))) ?ap) hZ2.lies) (fun _ h => h.2) (by go_light; simp; omega) hR.hb ?_
              case ap =>
               rintro y ⟨hy1, hy2⟩
               refine ⟨by go_light; omega, fun e => ?_, fun e => ?_, by go_light; omega⟩
               ·rcases hv1 with h | h
                ·exact absurd (hvB y (h ▸ e)) (by go_light; omega)
                ·rw [h] at e
                 have e' := Option.some.inj e
                 simp at e'
                 omega
               ·exact absurd (hlB y e) (by go_light; omega)
              intro v5 w5 ho5 hg5 hv5
              have hR' := hR.push_l ho5 hg5 hv5
              replace zG := zG.grownR hR.l (by first | exact .inl (by go_light; omega) | exact .inr (by decide)) hg5
              replace zP := zP.grownR hR.l (by first | exact .inl (by go_light; omega) | exact .inr (by decide)) hg5
              (first | (replace zX := zX.grownR hR.l (by first | exact .inl (by go_light; omega) | exact .inr (by decide)) hg5) | (replace zX := zX.grown hg5 hnX))
              replace hw := below_grown hw hg5 hw.size (fun g' h => by go_light; have := (hR.llt h).1; omega)
              replace hR := hR'
              clear hR'
              replace hS := HSK.out _ zG zX zP
              have fz3 := zG.frozen 3
              have cz3 := zG.cell 3
              have fz4 := zG.frozen 4
              have cz4 := zG.cell 4
              have lz := zG.lt
              simp only [List.getElem?_cons_zero, List.getElem?_cons_succ] at cz3 cz4
              obtain ⟨R1, p1, rfl, _⟩ := hR.ids.form
              obtain ⟨R2, p2, rfl, _⟩ := hR.l.form
              refine hK.out _ _ (fun _ => hS) ?_
              clear hK K
              try simp only [pu]
              refine late_one (i := 12) rfl (by kernel_rfl) (fun K hK => ?_)
              go_simp
              refine hK.out _ _ (fun h => absurd h (by decide)) ?_
              clear hK K
              try simp only [pu]
              refine late_one (i := 13) rfl (by kernel_rfl) (fun K hK => ?_)
              go_simp
              refine hK.out _ _ (fun h => absurd h (by decide)) ?_
              clear hK K
              try simp only [pu]
              refine late_one (i := 14) rfl (by kernel_rfl) (fun K hK => ?_)
              go_simp
              refine hK.out _ _ (fun h => absurd h (by decide)) ?_
              clear hK K
              try simp only [pu]
              refine late_done (by kernel_rfl) ?_ _
              simp only [List.length_append, List.length_map, List.length_cons, List.length_nil, Nat.zero_add] at hR
              replace hR := (hR.setCell 3 (.slice R1 (ai.length + 1) p1)).setCell 4 (.slice R2 (al.length + 1) p2)
              replace zG := (zG.set_ 3 (.slice R1 (ai.length + 1) p1)).set_ 4 (.slice R2 (al.length + 1) p2)
              simp only [List.set_cons_zero, List.set_cons_succ, List.length_append, List.length_map, List.length_cons, List.length_nil, Nat.zero_add] at zG
              skip
              skip
              replace hw := (hw.setCell (p := ⟨w1.heap.size, 3, none⟩) (by first | (simp; done) | (simp; omega)) (.slice R1 (ai.length + 1) p1)).setCell (p := ⟨w1.heap.size, 4, none⟩) (by first | (simp; done) | (simp; omega)) (.slice R2 (al.length + 1) p2)
              clear hS fz3 cz3 fz4 cz4 lz hg5 hv5 ho5 hg1 hv1 ho1
              go_wp2_with fail
              have hq := Hq.out
              have hll := Hll.out
              go_roundg (gk - 1)
              case measure => go_light; omega
              case rel => exact ⟨q + 1, ai ++ [pid], al ++ [.mk xk xn xs xi xl], _, _, by go_num, by go_light; omega, Hgo, by go_light; simp; omega, by go_light; simp; omega, hR, zG, hw⟩
             ·go_simp
              have hZ2 := Box.newB hw 28 [.int .i64 xk, .int .i64 xn, .string xs, .slice E1 xi.length f1, .slice E2 xl.length f2]
              try simp only [World.size_alloc] at hZ2
              replace hR := hR.alloc (.cells [.int .i64 xk, .int .i64 xn, .string xs, .slice E1 xi.length f1, .slice E2 xl.length f2].toArray 28)
              replace zG := zG.alloc (.cells [.int .i64 xk, .int .i64 xn, .string xs, .slice E1 xi.length f1, .slice E2 xl.length f2].toArray 28)
              replace zP := zP.alloc (.cells [.int .i64 xk, .int .i64 xn, .string xs, .slice E1 xi.length f1, .slice E2 xl.length f2].toArray 28)
              (first | (replace zX := zX.alloc (.cells [.int .i64 xk, .int .i64 xn, .string xs, .slice E1 xi.length f1, .slice E2 xl.length f2].toArray 28)) | (replace zX := zX.grown hg5 hnX))
              (first | (replace hZ1 := hZ1.alloc (.cells [.int .i64 xk, .int .i64 xn, .string xs, .slice E1 xi.length f1, .slice E2 xl.length f2].toArray 28)) | skip)
              replace hw := hw.alloc hw.size (.cells [.int .i64 xk, .int .i64 xn, .string xs, .slice E1 xi.length f1, .slice E2 xl.length f2].toArray 28)
              replace hS := HSK.out _ zG zX zP
              refine hK.out _ _ (fun _ => hS) ?_
              clear hK K
              try simp only [pu]
              refine late_one (i := 5) rfl (by kernel_rfl) (fun K hK => ?_)
              refine step_append _ rfl (.tmp 119) (.tmp 122) rfl sl_ints RInt.fair rfl rfl hR.ids (Src.one (es := [.int .i64 pid]) (y := pid) rfl (Ones.of_all rfl) rfl hZ1.lies) (NoT.lt _) (by go_light; simp; omega) hR.hb ?_
              intro v1 wk1 ho1 hg1 hv1
              have hR' := hR.push_id ho1 hg1 hv1
              replace zG := zG.grownR hR.ids (by first | exact .inl (by go_light; omega) | exact .inr (by decide)) hg1
              replace zP := zP.grownR hR.ids (by first | exact .inl (by go_light; omega) | exact .inr (by decide)) hg1
              (first | (replace zX := zX.grownR hR.ids (by first | exact .inl (by go_light; omega) | exact .inr (by decide)) hg1) | (replace zX := zX.grown hg5 hnX))
              (first | (replace hZ2 := hZ2.grownR hR.ids (.inr (by decide)) hg1) | skip)
              replace hw := below_grown hw hg1 hw.size (fun g' h => by go_light; have := (hR.ilt h).1; omega)
              replace hR := hR'
              clear hR'
              replace hS := HSK.out _ zG zX zP
              refine hK.out _ _ (fun _ => hS) ?_
              clear hK K
              try simp only [pu]
              refine tkL 11 hS ?_
              try simp only [pu]
              refine late_one (i := 10) rfl (by kernel_rfl) (fun K hK => ?_)
              refine step_append _ rfl (.tmp 125) (.tmp 127) rfl sl_vals RVal.fair rfl rfl hR.lrow (Src.one (es := [.int .i64 xk, .int .i64 xn, .string xs, .slice E1 xi.length f1, .slice E2 xl.length f2]) (y := ValueD.mk xk xn xs xi xl) rfl (Ones.of_all rfl) (hR.apart2 (RVal.fair.keep HXr.out (by first | exact (((Keep.drew _ _).trans (Keep.alloc _ _ _)).trans (Keep.of_grown hg1 hn1)).trans (Keep.alloc _ _ _) | exact (((Keep.drew _ _).trans (Keep.alloc _ _ _)).trans (Keep.alloc _ _ _)).trans (Keep.of_grown hg1 hn1))) ?ap) hZ2.lies) (fun _ h => h.2) (by go_light; simp; omega) hR.hb ?_
              case ap =>
               rintro y ⟨hy1, hy2⟩
               refine ⟨by go_light; omega, fun e => ?_, fun e => ?_, by go_light; omega⟩
               ·rcases hv1 with h | h
                ·exact absurd (hvB y (h ▸ e)) (by go_light; omega)
                ·rw [h] at e
                 have e' := Option.some.inj e
                 simp at e'
                 omega
               ·exact absurd (hlB y e) (by go_light; omega)
              intro v5 w5 ho5 hg5 hv5
              have hR' := hR.push_l ho5 hg5 hv5
              replace zG := zG.grownR hR.l (by first | exact .inl (by go_light; omega) | exact .inr (by decide)) hg5
              replace zP := zP.grownR hR.l (by first | exact .inl (by go_light; omega) | exact .inr (by decide)) hg5
              (first | (replace zX := zX.grownR hR.l (by first | exact .inl (by go_light; omega) | exact .inr (by decide)) hg5) | (replace zX := zX.grown hg5 hnX))
              replace hw := below_grown hw hg5 hw.size (fun g' h => by go_light; have := (hR.llt h).1; omega)
              replace hR := hR'
              clear hR'
              replace hS := HSK.out _ zG zX zP
              have fz3 := zG.frozen 3
              have cz3 := zG.cell 3
              have fz4 := zG.frozen 4
              have cz4 := zG.cell 4
              have lz := zG.lt
              simp only [List.getElem?_cons_zero, List.getElem?_cons_succ] at cz3 cz4
              obtain ⟨R1, p1, rfl, _⟩ := hR.ids.form
              obtain ⟨R2, p2, rfl, _⟩ := hR.l.form
              refine hK.out _ _ (fun _ => hS) ?_
              clear hK K
              try simp only [pu]
              refine late_one (i := 12) rfl (by kernel_rfl) (fun K hK => ?_)
              go_simp
              refine hK.out _ _ (fun h => absurd h (by decide)) ?_
              clear hK K
              try simp only [pu]
              refine late_one (i := 13) rfl (by kernel_rfl) (fun K hK => ?_)
              go_simp
              refine hK.out _ _ (fun h => absurd h (by decide)) ?_
              clear hK K
              try simp only [pu]
              refine late_one (i := 14) rfl (by kernel_rfl) (fun K hK => ?_)
              go_simp
              refine hK.out _ _ (fun h => absurd h (by decide)) ?_
              clear hK K
              try simp only [pu]
              refine late_done (by kernel_rfl) ?_ _
              simp only [List.length_append, List.length_map, List.length_cons, List.length_nil, Nat.zero_add] at hR
              replace hR := (hR.setCell 3 (.slice R1 (ai.length + 1) p1)).setCell 4 (.slice R2 (al.length + 1) p2)
              replace zG := (zG.set_ 3 (.slice R1 (ai.length + 1) p1)).set_ 4 (.slice R2 (al.length + 1) p2)
              simp only [List.set_cons_zero, List.set_cons_succ, List.length_append, List.length_map, List.length_cons, List.length_nil, Nat.zero_add] at zG
              skip
              skip
              replace hw := (hw.setCell (p := ⟨w1.heap.size, 3, none⟩) (by first | (simp; done) | (simp; omega)) (.slice R1 (ai.length + 1) p1)).setCell (p := ⟨w1.heap.size, 4, none⟩) (by first | (simp; done) | (simp; omega)) (.slice R2 (al.length + 1) p2)
              clear hS fz3 cz3 fz4 cz4 lz hg5 hv5 ho5 hg1 hv1 ho1
              go_wp2_with fail
              have hq := Hq.out
              have hll := Hll.out
              go_roundg (gk - 1)
              case measure => go_light; omega
              case rel => exact ⟨q + 1, ai ++ [pid], al ++ [.mk xk xn xs xi xl], _, _, by go_num, by go_light; omega, Hgo, by go_light; simp; omega, by go_light; simp; omega, hR, zG, hw⟩
            ·go_simp
             have hZ2 := Box.newB hw 28 [.int .i64 xk, .int .i64 xn, .string xs, .slice E1 xi.length f1, .slice E2 xl.length f2]
             try simp only [World.size_alloc] at hZ2
             replace hR := hR.alloc (.cells [.int .i64 xk, .int .i64 xn, .string xs, .slice E1 xi.length f1, .slice E2 xl.length f2].toArray 28)
             replace zG := zG.alloc (.cells [.int .i64 xk, .int .i64 xn, .string xs, .slice E1 xi.length f1, .slice E2 xl.length f2].toArray 28)
             replace zP := zP.alloc (.cells [.int .i64 xk, .int .i64 xn, .string xs, .slice E1 xi.length f1, .slice E2 xl.length f2].toArray 28)
             (first | (replace zX := zX.alloc (.cells [.int .i64 xk, .int .i64 xn, .string xs, .slice E1 xi.length f1, .slice E2 xl.length f2].toArray 28)) | (replace zX := zX.grown hg5 hnX))
             (first | (replace hZ1 := hZ1.alloc (.cells [.int .i64 xk, .int .i64 xn, .string xs, .slice E1 xi.length f1, .slice E2 xl.length f2].toArray 28)) | skip)
             replace hw := hw.alloc hw.size (.cells [.int .i64 xk, .int .i64 xn, .string xs, .slice E1 xi.length f1, .slice E2 xl.length f2].toArray 28)
             replace hS := HSK.out _ zG zX zP
             refine hK.out _ _ (fun _ => hS) ?_
             clear hK K
             try simp only [pu]
             refine late_one (i := 4) rfl (by kernel_rfl) (fun K hK => ?_)
             go_simp
             have hZ1 := Box.newB hw 3 [.int .i64 pid]
             try simp only [World.size_alloc] at hZ1
             replace hR := hR.alloc (.cells #[.int .i64 pid] 3)
             replace zG := zG.alloc (.cells #[.int .i64 pid] 3)
             replace zP := zP.alloc (.cells #[.int .i64 pid] 3)
             (first | (replace zX := zX.alloc (.cells #[.int .i64 pid] 3)) | (replace zX := zX.grown hg5 hnX))
             (first | (replace hZ2 := hZ2.alloc (.cells #[.int .i64 pid] 3)) | skip)
             replace hw := hw.alloc hw.size (.cells #[.int .i64 pid] 3)
             replace hS := HSK.out _ zG zX zP
             refine hK.out _ _ (fun _ => hS) ?_
             clear hK K
             try simp only [pu]
             refine late_one (i := 5) rfl (by kernel_rfl) (fun K hK => ?_)
             refine step_append _ rfl (.tmp 119) (.tmp 122) rfl sl_ints RInt.fair rfl rfl hR.ids (Src.one (es := [.int .i64 pid]) (y := pid) rfl (Ones.of_all rfl) rfl hZ1.lies) (NoT.lt _) (by go_light; simp; omega) hR.hb ?_
             intro v1 wk1 ho1 hg1 hv1
             have hR' := hR.push_id ho1 hg1 hv1
             replace zG := zG.grownR hR.ids (by first | exact .inl (by go_light; omega) | exact .inr (by decide)) hg1
             replace zP := zP.grownR hR.ids (by first | exact .inl (by go_light; omega) | exact .inr (by decide)) hg1
             (first | (replace zX := zX.grownR hR.ids (by first | exact .inl (by go_light; omega) | exact .inr (by decide)) hg1) | (replace zX := zX.grown hg5 hnX))
             (first | (replace hZ2 := hZ2.grownR hR.ids (.inr (by decide)) hg1) | skip)
             replace hw := below_grown hw hg1 hw.size (fun g' h => by go_light; have := (hR.ilt h).1; omega)
             replace hR := hR'
             clear hR'
             replace hS := HSK.out _ zG zX zP
             refine hK.out _ _ (fun _ => hS) ?_
             clear hK K
             try simp only [pu]
             refine tkL 11 hS ?_
             try simp only [pu]
             refine late_one (i := 10) rfl (by kernel_rfl) (fun K hK => ?_)
             refine step_append _ rfl (.tmp 125) (.tmp 127) rfl sl_vals RVal.fair rfl rfl hR.lrow (Src.one (es := [.int .i64 xk, .int .i64 xn, .string xs, .slice E1 xi.length f1, .slice E2 xl.length f2]) (y := ValueD.mk xk xn xs xi xl) rfl (Ones.of_all rfl) (hR.apart2 (RVal.fair.keep HXr.out (by first | exact (((Keep.drew _ _).trans (Keep.alloc _ _ _)).trans (Keep.of_grown hg1 hn1)).trans (Keep.alloc _ _ _) | exact (((Keep.drew _ _).trans (Keep.alloc _ _ _)).trans (Keep.alloc _ _ _)).trans (Keep.of_grown hg1 hn1))) ?ap) hZ2.lies) (fun _ h => h.2) (by go_light; simp; omega) hR.hb ?_
             case ap =>
              rintro y ⟨hy1, hy2⟩
              refine ⟨by go_light; omega, fun e => ?_, fun e => ?_, by go_light; omega⟩
              ·rcases hv1 with h | h
               ·exact absurd (hvB y (h ▸ e)) (by go_light; omega)
               ·rw [h] at e
                have e' := Option.some.inj e
                simp at e'
                omega
              ·exact absurd (hlB y e) (by go_light; omega)
             intro v5 w5 ho5 hg5 hv5
             have hR' := hR.push_l ho5 hg5 hv5
             replace zG := zG.grownR hR.l (by first | exact .inl (by go_light; omega) | exact .inr (by decide)) hg5
             replace zP := zP.grownR hR.l (by first | exact .inl (by go_light; omega) | exact .inr (by decide)) hg5
             (first | (replace zX := zX.grownR hR.l (by first | exact .inl (by go_light; omega) | exact .inr (by decide)) hg5) | (replace zX := zX.grown hg5 hnX))
             replace hw := below_grown hw hg5 hw.size (fun g' h => by go_light; have := (hR.llt h).1; omega)
             replace hR := hR'
             clear hR'
             replace hS := HSK.out _ zG zX zP
             have fz3 := zG.frozen 3
             have cz3 := zG.cell 3
             have fz4 := zG.frozen 4
             have cz4 := zG.cell 4
             have lz := zG.lt
             simp only [List.getElem?_cons_zero, List.getElem?_cons_succ] at cz3 cz4
             obtain ⟨R1, p1, rfl, _⟩ := hR.ids.form
             obtain ⟨R2, p2, rfl, _⟩ := hR.l.form
             refine hK.out _ _ (fun _ => hS) ?_
             clear hK K
             try simp only [pu]
             refine late_one (i := 12) rfl (by kernel_rfl) (fun K hK => ?_)
             go_simp
             refine hK.out _ _ (fun h => absurd h (by decide)) ?_
             clear hK K
             try simp only [pu]
             refine late_one (i := 13) rfl (by kernel_rfl) (fun K hK => ?_)
             go_simp
             refine hK.out _ _ (fun h => absurd h (by decide)) ?_
             clear hK K
             try simp only [pu]
             refine late_one (i := 14) rfl (by kernel_rfl) (fun K hK => ?_)
             go_simp
             refine hK.out _ _ (fun h => absurd h (by decide)) ?_
             clear hK K
             try simp only [pu]
             refine late_done (by kernel_rfl) ?_ _
             simp only [List.length_append, List.length_map, List.length_cons, List.length_nil, Nat.zero_add] at hR
             replace hR := (hR.setCell 3 (.slice R1 (ai.length + 1) p1)).setCell 4 (.slice R2 (al.length + 1) p2)
             replace zG := (zG.set_ 3 (.slice R1 (ai.length + 1) p1)).set_ 4 (.slice R2 (al.length + 1) p2)
             simp only [List.set_cons_zero, List.set_cons_succ, List.length_append, List.length_map, List.length_cons, List.length_nil, Nat.zero_add] at zG
             skip
             skip
             replace hw := (hw.setCell (p := ⟨w1.heap.size, 3, none⟩) (by first | (simp; done) | (simp; omega)) (.slice R1 (ai.length + 1) p1)).setCell (p := ⟨w1.heap.size, 4, none⟩) (by first | (simp; done) | (simp; omega)) (.slice R2 (al.length + 1) p2)
             clear hS fz3 cz3 fz4 cz4 lz hg5 hv5 ho5 hg1 hv1 ho1
             go_wp2_with fail
             have hq := Hq.out
             have hll := Hll.out
             go_roundg (gk - 1)
             case measure => go_light; omega
             case rel => exact ⟨q + 1, ai ++ [pid], al ++ [.mk xk xn xs xi xl], _, _, by go_num, by go_light; omega, Hgo, by go_light; simp; omega, by go_light; simp; omega, hR, zG, hw⟩
        ·have Hno := Lib.hid (show r = (.zero, fi) from by rw [Hr.out, Hst.out, if_pos hfi0]; simp [hfi0])
         have hcb : (fi != 0) = true := by simpa using hfi0
         obtain ⟨r0, r1, r2, r3, r4⟩ := aV.five
         have g0 := aV.frozen 0
         have g1 := aV.frozen 1
         have g2 := aV.frozen 2
         have g3 := aV.frozen 3
         have g4 := aV.frozen 4
         have hlr := aV.lt
         have hwb := below_via hw1 hwf hw1.size
         clear hfi0
         go_wp2_with fail
         change bodyPost _ _ _ _ _ (setCells w3 (w.heap.size + 1 + 1) 0 [.int .i64 0, .int .i64 0, .string ⟨#[]⟩, .slice none 0 0, .slice none 0 0])
         have hb5 := aV.setCells [.int .i64 0, .int .i64 0, .string ⟨#[]⟩, .slice none 0 0, .slice none 0 0] rfl
         have hw5 := below_setCells (g := (w.heap.size + 1 + 1)) (by go_light; omega) [.int .i64 0, .int .i64 0, .string ⟨#[]⟩, .slice none 0 0, .slice none 0 0] 0 _ hwb
         generalize setCells w3 (w.heap.size + 1 + 1) 0 _ = W5 at hb5 hw5 ⊢
         rw [Hno.out]
         exact bodyPost_ret (decode_results hb5 rfl rfl) rfl ⟨_, rfl, RVal.zero, hw5⟩
   ·have hdr : ps.drop q = [] := List.drop_eq_nil_of_le (by go_light; omega)
    rw [hdr, decGo] at he
    have Hfin : Hid (r = (filledF b 4 t ai al, 0)) := by
     show _ = _
     rw [Hr.out, ← he.out]; simp
    have hal : al.length ≤ q := by have := hll; go_light; omega
    have HRd0 := Lib.hid (hR.read (S := (fun y => w1.heap.size + 1 ≤ y)) (fun y hy => hy) (fun y hy => hy) (by go_light; omega) (by go_light; omega) 2 0 ⟨#[]⟩)
    obtain ⟨R1, p1, rfl, _⟩ := hR.ids.form
    obtain ⟨R2, p2, rfl, _⟩ := hR.l.form
    obtain ⟨fv, hfv⟩ : ∃ fv, fv = filledF b 4 t ai al := ⟨_, rfl⟩
    have hcall := fun (h0 : RSl 5 96 RType S wr [.slice A b.length cap] b) (h1 : RType S wr [.string t.name, .bool t.enum, .slice A1 t.fields.length k1, .slice A2 t.gone.length k2, .slice A3 t.items.length k3] t) => filled_any S (fun y => w1.heap.size + 1 ≤ y) _ b HG.out _ _ t 2 0 ⟨#[]⟩ ai al wr h0 h1 HM.out HRd0.out hll (by go_light; omega)
    rw [← hfv] at hcall Hfin
    have Hcall := Lib.hid hcall
    have HBe := Lib.hid ((RSl.fair RType.fair).below HB1.out hw)
    have HTe := Lib.hid (RType.fair.below HT1.out hw)
    obtain ⟨t0, t1, t2, t3, t4⟩ := zT.five
    obtain ⟨e0, e1, e2, e3, e4⟩ := zG.five
    have b0 : wr.cell? ⟨w.heap.size, 0, none⟩ = some (.slice A b.length cap) := zB.cell 0
    have hlB := zB.lt
    have hlT := zT.lt
    have hlG := zG.lt
    have hws := hw.size
    clear hcall hfv he hR zB zT zG hdr hll hq Hq Hll
    go_wp2_with fail
    refine (Hcall.out HBe.out HTe.out).mono ?_
    rintro e w4 ⟨cs4, rfl, hr4, hb4⟩
    obtain ⟨vk, vn, vs, vids, vls⟩ := fv
    obtain ⟨D1, f1, D2, f2, rfl, -, -⟩ := hr4.parts
    have sV := zR.below hb4 zR.lt
    have hwb := below_via hw1 (below_via hw hb4 hw.size) hw1.size
    have Hr4 := Lib.hid hr4
    have Hws := Lib.hid hws
    obtain ⟨r0, r1, r2, r3, r4⟩ := sV.five
    have g0 := sV.frozen 0
    have g1 := sV.frozen 1
    have g2 := sV.frozen 2
    have g3 := sV.frozen 3
    have g4 := sV.frozen 4
    have hlr := sV.lt
    clear t0 t1 t2 t3 t4 e0 e1 e2 e3 e4 b0 hlB hlT hlG hr4 HBe HTe Hcall zR hb4 hw HRd0 hws
    go_wp2_with fail
    change bodyPost _ _ _ _ _ (setCells w4 (w.heap.size + 1 + 1) 0 [.int .i64 vk, .int .i64 vn, .string vs, .slice D1 vids.length f1, .slice D2 vls.length f2])
    have hb5 := sV.setCells [.int .i64 vk, .int .i64 vn, .string vs, .slice D1 vids.length f1, .slice D2 vls.length f2] rfl
    have hw5 := below_setCells (g := (w.heap.size + 1 + 1)) (by go_light; omega) [.int .i64 vk, .int .i64 vn, .string vs, .slice D1 vids.length f1, .slice D2 vls.length f2] 0 _ hwb
    have hrd : RVal (New w) (setCells w4 (w.heap.size + 1 + 1) 0 [.int .i64 vk, .int .i64 vn, .string vs, .slice D1 vids.length f1, .slice D2 vls.length f2]) [.int .i64 vk, .int .i64 vn, .string vs, .slice D1 vids.length f1, .slice D2 vls.length f2] (.mk vk vn vs vids vls) :=
     RVal.fair.mono (RVal.fair.keep Hr4.out (Keep.setCells (by have := Hws.out; rintro (h | h) <;> (go_light; omega)) _ _ _)) (fun y hy _ => by
      have := Hws.out
      show w.heap.size ≤ y
      rcases hy with h | h
      ·have h' : w1.heap.size + 1 ≤ y := h
       go_light; omega
      ·go_light; omega)
    generalize setCells w4 (w.heap.size + 1 + 1) 0 _ = W5 at hb5 hw5 hrd ⊢
    rw [Hfin.out]
    exact bodyPost_ret (decode_results hb5 rfl rfl) rfl ⟨_, rfl, hrd, hw5⟩
 ·have hcb : (dc != 0) = true := by simpa using hdc
  rw [if_pos hdc] at Hr
  have Hno := Lib.hid Hr.out
  clear hdc
  obtain ⟨r0, r1, r2, r3, r4⟩ := y3.five
  have g0 := y3.frozen 0
  have g1 := y3.frozen 1
  have g2 := y3.frozen 2
  have g3 := y3.frozen 3
  have g4 := y3.frozen 4
  have hlr := y3.lt
  go_wp2_with fail
  change bodyPost _ _ _ _ _ (setCells w1 (w.heap.size + 1 + 1) 0 [.int .i64 0, .int .i64 0, .string ⟨#[]⟩, .slice none 0 0, .slice none 0 0])
  have hb5 := y3.setCells [.int .i64 0, .int .i64 0, .string ⟨#[]⟩, .slice none 0 0, .slice none 0 0] rfl
  have hw5 := below_setCells (g := (w.heap.size + 1 + 1)) (by go_light; omega) [.int .i64 0, .int .i64 0, .string ⟨#[]⟩, .slice none 0 0, .slice none 0 0] 0 _ hw1
  generalize setCells w1 (w.heap.size + 1 + 1) 0 _ = W5 at hb5 hw5 ⊢
  rw [Hno.out]
  exact bodyPost_ret (decode_results hb5 rfl rfl) rfl ⟨_, rfl, RVal.zero, hw5⟩
theorem vdecode_any (S : Nat → Prop) (vb : Value) (b : BookD) (hg : goodF b = 0) : ∀ (k : Nat), DecAt S vb b k
 | 0 => vdecode_zero S vb b
 | k + 1 => vdecode_succ S vb b hg k (vdecode_any S vb b hg k)
end Go.Proofs.YtfidfakcbjoilaaDoor
