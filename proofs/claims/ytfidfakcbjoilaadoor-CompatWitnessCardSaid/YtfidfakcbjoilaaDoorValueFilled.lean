/- The walk of value.filled. -/
import Derived.Deep.Light
import Derived.Test.YtfidfakcbjoilaaDoorValueLeast
set_option linter.all false
set_option maxRecDepth 100000
set_option maxHeartbeats 8000000
namespace Go.Proofs.YtfidfakcbjoilaaDoor
open Go.RowKit
attribute [local go_sem ↓] Go.wp_at_zero Go.wp_at_succ
def ValUn (S : Nat → Prop) (w : World) (v : ValueD) (e : Ending) (w' : World) : Prop := ∃ cs, e = .returned (.agg cs.toArray) ∧ RVal (Un S w) w' cs v ∧ Below w.heap.size w w'
def fillTo (b : BookD) (t : TypeD) (ids : List Int) (l : List ValueD) (n : Nat) : List (Int × ValueD) := (t.fields.take n).flatMap (filledGo b 4 ids l)
theorem fillTo_succ {b : BookD} {t : TypeD} {ids : List Int} {l : List ValueD} {n : Nat} (h : n < t.fields.length) : fillTo b t ids l (n + 1) = fillTo b t ids l n ++ filledGo b 4 ids l t.fields[n] := by
 unfold fillTo
 rw [List.take_succ_eq_append_getElem h, List.flatMap_append]
 simp
theorem fillGo_len (b : BookD) (ids : List Int) (l : List ValueD) (f : FieldD) : (filledGo b 4 ids l f).length ≤ 1 + ids.length := by
 unfold filledGo
 rw [List.length_append]
 have := List.length_filter_le (fun p : Int × ValueD => decide (p.1 = f.id)) (ids.zip l)
 rw [List.length_zip] at this
 split <;> simp <;> omega
theorem fillTo_len (b : BookD) (t : TypeD) (ids : List Int) (l : List ValueD) : ∀ n, n ≤ t.fields.length → (fillTo b t ids l n).length ≤ n * (1 + ids.length)
 | 0, _ => by simp [fillTo]
 | n + 1, h => by
  rw [fillTo_succ (by go_light; omega), List.length_append]
  have := fillTo_len b t ids l n (by go_light; omega)
  have := fillGo_len b ids l t.fields[n]
  rw [Nat.add_mul]; omega
theorem filled_results {W : World} {a : Act} {g : Nat} {c0 c1 c2 c3 c4 : Value} (hb : Box W g 28 [c0, c1, c2, c3, c4]) (h4 : a.tmps.getD 6 undef = .pointer (some ⟨g, 0, none⟩)) :
  (results Tryd.f52 a.tmps).run Tryd.prog W = .ok (.agg #[c0, c1, c2, c3, c4]) W := by
 obtain ⟨e0, e1, e2, e3, e4⟩ := hb.five
 simp only [Array.getD_eq_getD_getElem?] at h4
 simp [results, Tryd.results52, go_sem, h4, e0, e1, e2, e3, e4]
theorem filled_any (S S' : Nat → Prop) (vb : Value) (b : BookD) (hg : goodF b = 0) (cst cs : List Value) (t : TypeD) (kind nn : Int) (s : ByteArray) (ids : List Int) (l : List ValueD) (w : World) (hb0 : RSl 5 96 RType S w [vb] b) (ht : RType S w cst t) (hm : MessageP b t)
  (hr : RVal S' w cs (.mk kind nn s ids l)) (hll : ids.length = l.length) (hlm : ids.length ≤ 100000) :
  Calls Tryd.prog 52 #[.agg #[vb], .agg cst.toArray, .agg cs.toArray] w (ValUn S' w (filledF b 4 t ids l)) := by
 obtain ⟨A, cap, rfl, hlc, hlb⟩ := hb0.form
 obtain ⟨A1, k1, A2, k2, A3, k3, rfl, hf, hgn, hi⟩ := ht.parts
 obtain ⟨I1, d1, I2, d2, rfl, hri, hrl⟩ := hr.parts
 have h5 : t.fields.length ≤ 5 := hm.1
 have HB := Lib.hid hb0
 have HF := Lib.hid hf
 have HI := Lib.hid hri
 have HL := Lib.hid hrl
 have HM := Lib.hid hm
 have HG := Lib.hid hg
 have Hll := Lib.hid hll
 have hlen : ∀ n, n ≤ t.fields.length → (fillTo b t ids l n).length ≤ 500005 := fun n hn => by
  have := fillTo_len b t ids l n hn
  have : n * (1 + ids.length) ≤ 5 * 100001 := Nat.mul_le_mul (by go_light; omega) (by go_light; omega)
  omega
 have HLen := Lib.hid hlen
 obtain ⟨x1, x2, x3, x4, x5⟩ := boxes4 w [.slice A b.length cap] [.string t.name, .bool t.enum, .slice A1 t.fields.length k1, .slice A2 t.gone.length k2, .slice A3 t.items.length k3] [.int .i64 kind, .int .i64 nn, .string s, .slice I1 ids.length d1, .slice I2 l.length d2] [.int .i64 0, .int .i64 0, .string ⟨#[]⟩, .slice none 0 0, .slice none 0 0] 24 52 28 28
 clear hb0 ht hf hgn hi hr hri hrl hm hll hlen
 go_enter Tryd.func52, Tryd.ntmps52
 go_wp2_with fail
 go_loopw [16] (fun i wr => ∃ (n : Nat) (vi vl : Value), i = .int .i64 n ∧ n ≤ t.fields.length ∧ Rows2 (fun y => w.heap.size + 1 + 1 + 1 + 1 + 1 ≤ y ∨ (S' y ∧ y < w.heap.size)) (w.heap.size + 1 + 1 + 1 + 1 + 1) wr (w.heap.size + 1 + 1 + 1 + 1) vi vl ((fillTo b t ids l n).map (·.1)) ((fillTo b t ids l n).map (·.2)) ∧
   Box wr (w.heap.size + 1 + 1 + 1 + 1) 28 [.int .i64 2, .int .i64 0, .string ⟨#[]⟩, vi, vl] ∧ Box wr (w.heap.size + 1 + 1 + 1) 28 [.int .i64 0, .int .i64 0, .string ⟨#[]⟩, .slice none 0 0, .slice none 0 0] ∧ Box wr (w.heap.size + 1 + 1) 28 [.int .i64 kind, .int .i64 nn, .string s, .slice I1 ids.length d1, .slice I2 l.length d2] ∧ Box wr w.heap.size 24 [.slice A b.length cap] ∧ Below w.heap.size w wr) (fun i _ => t.fields.length - (intOf i).toNat)
 case atStart =>
  have x6 : Box (((((w.alloc (.cells #[.slice A b.length cap] 24)).alloc (.cells [.string t.name, .bool t.enum, .slice A1 t.fields.length k1, .slice A2 t.gone.length k2, .slice A3 t.items.length k3].toArray 52)).alloc (.cells [.int .i64 kind, .int .i64 nn, .string s, .slice I1 ids.length d1, .slice I2 l.length d2].toArray 28)).alloc (.cells [.int .i64 0, .int .i64 0, .string ⟨#[]⟩, .slice none 0 0, .slice none 0 0].toArray 28)).alloc (.cells #[.int .i64 2, .int .i64 0, .string ⟨#[]⟩, .slice none 0 0, .slice none 0 0] 28)) (w.heap.size + 1 + 1 + 1 + 1) 28 [.int .i64 2, .int .i64 0, .string ⟨#[]⟩, .slice none 0 0, .slice none 0 0] := by
   have := Box.newB x5 28 [.int .i64 2, .int .i64 0, .string ⟨#[]⟩, .slice none 0 0, .slice none 0 0]
   simpa using this
  exact ⟨0, .slice none 0 0, .slice none 0 0, rfl, by go_light; omega, Rows2.new _ _ _ _ (by go_light; omega) (by simp), x6, x4.alloc _, x3.alloc _, x1.alloc _, x5.alloc x5.size _⟩
 case round =>
  obtain ⟨n, vi, vl, rfl, hn, hro, zG, zR, zV, zB, hb⟩ := hrel
  clear x1 x2 x3 x4 x5
  by_cases hlt : n < t.fields.length
  ·obtain ⟨g, o, rfl, hS0, hgw⟩ := HF.out.base (by go_light; omega)
   have hc := (HF.out.flat (enc := fieldCells) hlt).keep (Keep.of_below hb) hS0
   have hfp : fieldP b t.fields[n] := msg_field HM.out (List.getElem_mem hlt)
   have hen : EndsP b 4 t.fields[n] := good_ends HG.out HM.out (List.getElem_mem hlt)
   have hsucc := fillTo_succ (b := b) (t := t) (ids := ids) (l := l) hlt
   have hl1 := HLen.out n (by go_light; omega)
   have hl2 := HLen.out (n + 1) (by go_light; omega)
   obtain ⟨f0, hxe⟩ : ∃ x, x = t.fields[n] := ⟨_, rfl⟩
   rw [← hxe] at hc hfp hen hsucc
   obtain ⟨fid, fname, ftype, fkind, frule⟩ := f0
   have q0 : wr.cell? ⟨g, o + n * 5, none⟩ = some (.int .i64 fid) := hc.at_ 0 rfl
   have q1 : wr.cell? ⟨g, o + n * 5 + 1, none⟩ = some (.string fname) := hc.at_ 1 rfl
   have q2 : wr.cell? ⟨g, o + n * 5 + 2, none⟩ = some (.string ftype) := hc.at_ 2 rfl
   have q3 : wr.cell? ⟨g, o + n * 5 + 3, none⟩ = some (.int .i64 fkind) := hc.at_ 3 rfl
   have q4 : wr.cell? ⟨g, o + n * 5 + 4, none⟩ = some (.int .i64 frule) := hc.at_ 4 rfl
   have hgl : g < wr.heap.size := Nat.lt_of_lt_of_le hgw hb.size
   obtain ⟨P0, hP0⟩ : ∃ P, P = fillTo b t ids l n := ⟨_, rfl⟩
   rw [← hP0] at hro hl1 hsucc
   have hsucc2 : Hid (fillTo b t ids l (n + 1) = P0 ++ ((if frule = 1 ∧ hasI ids fid = false then [(fid, leastOfF b 4 ⟨fid, fname, ftype, fkind, frule⟩)] else []) ++ (ids.zip l).filter (fun p => decide (p.1 = fid)))) := hsucc
   rw [hsucc2.out] at hl2
   have Hfp := Lib.hid hfp
   have Hen := Lib.hid hen
   have hl2a : P0.length + ((if frule = 1 ∧ hasI ids fid = false then [(fid, leastOfF b 4 ⟨fid, fname, ftype, fkind, frule⟩)] else []) : List (Int × ValueD)).length + ((ids.zip l).filter (fun p => decide (p.1 = fid))).length ≤ 500005 := by
    simpa [List.length_append, Nat.add_assoc] using hl2
   clear hc hxe hfp hen hsucc hP0 hl2
   have Hl2 := Lib.hid hl2a
   clear hl2a
   have hw := hb.alloc hb.size (.cells #[.int .i64 fid, .string fname, .string ftype, .int .i64 fkind, .int .i64 frule] 56)
   have hR := hro.alloc (.cells #[.int .i64 fid, .string fname, .string ftype, .int .i64 fkind, .int .i64 frule] 56)
   have zX : Box (wr.alloc (.cells #[.int .i64 fid, .string fname, .string ftype, .int .i64 fkind, .int .i64 frule] 56)) wr.heap.size 56 [.int .i64 fid, .string fname, .string ftype, .int .i64 fkind, .int .i64 frule] := Box.new wr _ _
   replace zG := zG.alloc (.cells #[.int .i64 fid, .string fname, .string ftype, .int .i64 fkind, .int .i64 frule] 56)
   replace zR := zR.alloc (.cells #[.int .i64 fid, .string fname, .string ftype, .int .i64 fkind, .int .i64 frule] 56)
   replace zV := zV.alloc (.cells #[.int .i64 fid, .string fname, .string ftype, .int .i64 fkind, .int .i64 frule] 56)
   replace zB := zB.alloc (.cells #[.int .i64 fid, .string fname, .string ftype, .int .i64 fkind, .int .i64 frule] 56)
   have hXG : (w.heap.size + 1 + 1 + 1 + 1) < wr.heap.size := by go_light; have := hro.hb; omega
   have v3 : (wr.alloc (.cells #[.int .i64 fid, .string fname, .string ftype, .int .i64 fkind, .int .i64 frule] 56)).cell? ⟨w.heap.size + 1 + 1, 3, none⟩ = some (.slice I1 ids.length d1) := zV.cell 3
   have hlv := zV.lt
   have HIa := Lib.hid ((RSl.fair RInt.fair).below HI.out hw)
   obtain ⟨hh, hhe⟩ : ∃ h, h = hasI ids fid := ⟨_, rfl⟩
   have hcall := fun W (h : RSl 1 8 RInt S' W [.slice I1 ids.length d1] ids) => has_any S' _ ids fid W h
   rw [← hhe] at hcall hsucc2 Hl2
   have Hcall := Lib.hid hcall
   clear hcall hhe hro hb
   by_cases hput : frule = 1 ∧ hh = false
   ·obtain ⟨hr1, rfl⟩ := hput
    have hrb : (frule == 1) = true := by simpa using hr1
    have hsucc3 : Hid (fillTo b t ids l (n + 1) = (P0 ++ [(fid, leastOfF b 4 ⟨fid, fname, ftype, fkind, frule⟩)]) ++ (ids.zip l).filter (fun p => decide (p.1 = fid))) := by
     show _ = _
     rw [hsucc2.out, if_pos ⟨hr1, rfl⟩, List.append_assoc]
    have hl3 := Hl2.out
    rw [if_pos ⟨hr1, rfl⟩] at hl3
    have Hl3 := Lib.hid hl3
    clear hr1 hsucc2 Hl2 hl3
    go_wp2_with fail
    refine (Hcall.out _ HIa.out).mono ?_
    rintro e w' ⟨rfl, rfl⟩
    go_wp2_with fail
    have hl3 := Hl3.out
    obtain ⟨⟨lk, ln, lt, li, ll⟩, hlf⟩ : ∃ x, x = leastOfF b 4 ⟨fid, fname, ftype, fkind, frule⟩ := ⟨_, rfl⟩
    have hlo := fun W (h : RSl 5 96 RType S W [.slice A b.length cap] b) => leastOf_any S _ b HG.out 4 ⟨fid, fname, ftype, fkind, frule⟩ W h Hfp.out Hen.out
    rw [← hlf] at hlo hsucc3
    have Hlo := Lib.hid hlo
    have hP0 : P0.length ≤ 500005 := by go_light; omega
    clear hlo hl3 hlf hrb q0 q1 q2 q3 q4 v3 hlv
    generalize hWW : wr.alloc (.cells #[.int .i64 fid, .string fname, .string ftype, .int .i64 fkind, .int .i64 frule] 56) = W0 at *
    have hXl : wr.heap.size < W0.heap.size := zX.lt
    generalize hXX : wr.heap.size = X at *
    clear hWW hXX
    have HSK : Hid (∀ W', Box W' (w.heap.size + 1 + 1 + 1 + 1) 28 [.int .i64 2, .int .i64 0, .string ⟨#[]⟩, vi, vl] → Box W' X 56 [.int .i64 fid, .string fname, .string ftype, .int .i64 fkind, .int .i64 frule] → Box W' (w.heap.size + 1 + 1) 28 [.int .i64 kind, .int .i64 nn, .string s, .slice I1 ids.length d1, .slice I2 l.length d2] → Box W' w.heap.size 24 [.slice A b.length cap] → Below w.heap.size w W' → (fun W' => (W'.cell? ⟨(w.heap.size + 1 + 1 + 1 + 1), 3, none⟩ = some vi ∧ W'.cell? ⟨(w.heap.size + 1 + 1 + 1 + 1), 4, none⟩ = some vl) ∧ (W'.cell? ⟨X, 0, none⟩ = some (.int .i64 fid) ∧ W'.cell? ⟨X, 1, none⟩ = some (.string fname) ∧ W'.cell? ⟨X, 2, none⟩ = some (.string ftype) ∧ W'.cell? ⟨X, 3, none⟩ = some (.int .i64 fkind) ∧ W'.cell? ⟨X, 4, none⟩ = some (.int .i64 frule)) ∧ W'.cell? ⟨w.heap.size, 0, none⟩ = some (.slice A b.length cap)) W') :=
     fun W' h1 h2 _ h4 _ => ⟨⟨h1.cell 3, h1.cell 4⟩, h2.five, h4.cell 0⟩
    replace hR := hR.drew
    replace zG := zG.drew
    replace zR := zR.drew
    replace zV := zV.drew
    replace zB := zB.drew
    replace zX := zX.drew
    replace hw := below_drew hw
    have hS := trivial
    replace hS := HSK.out _ zG zX zV zB hw
    refine late_start (fun W' => (W'.cell? ⟨(w.heap.size + 1 + 1 + 1 + 1), 3, none⟩ = some vi ∧ W'.cell? ⟨(w.heap.size + 1 + 1 + 1 + 1), 4, none⟩ = some vl) ∧ (W'.cell? ⟨X, 0, none⟩ = some (.int .i64 fid) ∧ W'.cell? ⟨X, 1, none⟩ = some (.string fname) ∧ W'.cell? ⟨X, 2, none⟩ = some (.string ftype) ∧ W'.cell? ⟨X, 3, none⟩ = some (.int .i64 fkind) ∧ W'.cell? ⟨X, 4, none⟩ = some (.int .i64 frule)) ∧ W'.cell? ⟨w.heap.size, 0, none⟩ = some (.slice A b.length cap)) 14 (by kernel_rfl) ?_
    refine tkL 0 hS ?_
    try simp only [pu]
    refine tkL 1 hS ?_
    try simp only [pu]
    refine tkL 2 hS ?_
    try simp only [pu]
    refine tkL 3 hS ?_
    try simp only [pu]
    refine tkL 6 hS ?_
    try simp only [pu]
    refine tkL 7 hS ?_
    try simp only [pu]
    refine tkL 8 hS ?_
    try simp only [pu]
    refine tkL 9 hS ?_
    try simp only [pu]
    refine late_one (i := 4) rfl (by kernel_rfl) (fun K hK => ?_)
    go_simp
    have hZ1 := Box.newB hw 3 [.int .i64 fid]
    try simp only [World.size_alloc] at hZ1
    replace hR := hR.alloc (.cells #[.int .i64 fid] 3)
    replace zG := zG.alloc (.cells #[.int .i64 fid] 3)
    replace zR := zR.alloc (.cells #[.int .i64 fid] 3)
    replace zV := zV.alloc (.cells #[.int .i64 fid] 3)
    replace zB := zB.alloc (.cells #[.int .i64 fid] 3)
    replace zX := zX.alloc (.cells #[.int .i64 fid] 3)
    (first | (replace hZ2 := hZ2.alloc (.cells #[.int .i64 fid] 3)) | skip)
    replace hw := hw.alloc hw.size (.cells #[.int .i64 fid] 3)
    replace hS := HSK.out _ zG zX zV zB hw
    refine hK.out _ _ (fun _ => hS) ?_
    clear hK K
    try simp only [pu]
    refine late_one (i := 5) rfl (by kernel_rfl) (fun K hK => ?_)
    refine step_append _ rfl (.tmp 32) (.tmp 35) rfl sl_ints RInt.fair rfl rfl hR.ids (Src.one (es := [.int .i64 fid]) (y := fid) rfl (Ones.of_all rfl) rfl hZ1.lies) (NoT.lt _) (by go_light; simp; omega) hR.hb ?_
    intro v1 wk1 ho1 hg1 hv1
    have hR' := hR.push_id ho1 hg1 hv1
    replace zG := zG.grownR hR.ids (by first | exact .inl (by go_light; omega) | exact .inr (by decide)) hg1
    replace zR := zR.grownR hR.ids (by first | exact .inl (by go_light; omega) | exact .inr (by decide)) hg1
    replace zV := zV.grownR hR.ids (by first | exact .inl (by go_light; omega) | exact .inr (by decide)) hg1
    replace zB := zB.grownR hR.ids (by first | exact .inl (by go_light; omega) | exact .inr (by decide)) hg1
    replace zX := zX.grownR hR.ids (by first | exact .inl (by go_light; omega) | exact .inr (by decide)) hg1
    (first | (replace hZ2 := hZ2.grownR hR.ids (.inr (by decide)) hg1) | skip)
    replace hw := below_grown hw hg1 hw.size (fun g' h => by go_light; have := (hR.ilt h).1; omega)
    replace hR := hR'
    clear hR'
    replace hS := HSK.out _ zG zX zV zB hw
    refine hK.out _ _ (fun _ => hS) ?_
    clear hK K
    try simp only [pu]
    refine tkL 13 hS ?_
    try simp only [pu]
    have hR1 := hR
    refine late_one (i := 10) rfl (by kernel_rfl) (fun K hK => ?_)
    go_simp
    refine (Hlo.out _ ((RSl.fair RType.fair).below HB.out hw)).mono ?_
    rintro e w3 ⟨cs3, rfl, hr3, hb3⟩
    obtain ⟨B1, e1, B2, e2, rfl, -, -⟩ := hr3.parts
    replace hR := hR.below hb3
    replace zG := zG.below hb3 zG.lt
    replace zR := zR.below hb3 zR.lt
    replace zV := zV.below hb3 zV.lt
    replace zB := zB.below hb3 zB.lt
    replace zX := zX.below hb3 zX.lt
    replace hw := below_via hw hb3 hw.size
    replace hS := HSK.out _ zG zX zV zB hw
    refine hK.out _ _ (fun _ => hS) ?_
    clear hK K
    try simp only [pu]
    refine late_one (i := 11) rfl (by kernel_rfl) (fun K hK => ?_)
    go_simp
    have hZ2 := Box.newB hw 28 [.int .i64 lk, .int .i64 ln, .string lt, .slice B1 li.length e1, .slice B2 ll.length e2]
    try simp only [World.size_alloc] at hZ2
    replace hR := hR.alloc (.cells [.int .i64 lk, .int .i64 ln, .string lt, .slice B1 li.length e1, .slice B2 ll.length e2].toArray 28)
    replace zG := zG.alloc (.cells [.int .i64 lk, .int .i64 ln, .string lt, .slice B1 li.length e1, .slice B2 ll.length e2].toArray 28)
    replace zR := zR.alloc (.cells [.int .i64 lk, .int .i64 ln, .string lt, .slice B1 li.length e1, .slice B2 ll.length e2].toArray 28)
    replace zV := zV.alloc (.cells [.int .i64 lk, .int .i64 ln, .string lt, .slice B1 li.length e1, .slice B2 ll.length e2].toArray 28)
    replace zB := zB.alloc (.cells [.int .i64 lk, .int .i64 ln, .string lt, .slice B1 li.length e1, .slice B2 ll.length e2].toArray 28)
    replace zX := zX.alloc (.cells [.int .i64 lk, .int .i64 ln, .string lt, .slice B1 li.length e1, .slice B2 ll.length e2].toArray 28)
    (first | (replace hZ1 := hZ1.alloc (.cells [.int .i64 lk, .int .i64 ln, .string lt, .slice B1 li.length e1, .slice B2 ll.length e2].toArray 28)) | skip)
    replace hw := hw.alloc hw.size (.cells [.int .i64 lk, .int .i64 ln, .string lt, .slice B1 li.length e1, .slice B2 ll.length e2].toArray 28)
    replace hS := HSK.out _ zG zX zV zB hw
    refine hK.out _ _ (fun _ => hS) ?_
    clear hK K
    try simp only [pu]
    refine late_one (i := 12) rfl (by kernel_rfl) (fun K hK => ?_)
    refine step_append _ rfl (.tmp 38) (.tmp 42) rfl sl_vals RVal.fair rfl rfl hR.lrow (Src.one (es := [.int .i64 lk, .int .i64 ln, .string lt, .slice B1 li.length e1, .slice B2 ll.length e2]) (y := ValueD.mk lk ln lt li ll) rfl (Ones.of_all rfl) (hR1.apart (RVal.fair.keep hr3 (Keep.alloc _ _ _)) (fun y hy _ => ⟨.inl hy, .inl (Nat.le_trans hR1.hb hy)⟩)) hZ2.lies) (fun _ h => h.2) (by go_light; simp; omega) hR.hb ?_
    intro v5 w5 ho5 hg5 hv5
    have hR' := hR.push_l ho5 hg5 hv5
    replace zG := zG.grownR hR.l (by first | exact .inl (by go_light; omega) | exact .inr (by decide)) hg5
    replace zR := zR.grownR hR.l (by first | exact .inl (by go_light; omega) | exact .inr (by decide)) hg5
    replace zV := zV.grownR hR.l (by first | exact .inl (by go_light; omega) | exact .inr (by decide)) hg5
    replace zB := zB.grownR hR.l (by first | exact .inl (by go_light; omega) | exact .inr (by decide)) hg5
    replace zX := zX.grownR hR.l (by first | exact .inl (by go_light; omega) | exact .inr (by decide)) hg5
    replace hw := below_grown hw hg5 hw.size (fun g' h => by go_light; have := (hR.llt h).1; omega)
    replace hR := hR'
    clear hR'
    replace hS := HSK.out _ zG zX zV zB hw
    have fz3 := zG.frozen 3
    have cz3 := zG.cell 3
    have fz4 := zG.frozen 4
    have cz4 := zG.cell 4
    have lz := zG.lt
    simp only [List.getElem?_cons_zero, List.getElem?_cons_succ] at cz3 cz4
    obtain ⟨R1, p1, rfl, _⟩ := hR.ids.form
    obtain ⟨R2, p2, rfl, _⟩ := hR.l.form
    refine hK.out _ _ (fun _ => hS) ?_
    clear hK K
    try simp only [pu]
    refine late_one (i := 14) rfl (by kernel_rfl) (fun K hK => ?_)
    go_simp
    refine hK.out _ _ (fun h => absurd h (by decide)) ?_
    clear hK K
    try simp only [pu]
    refine late_one (i := 15) rfl (by kernel_rfl) (fun K hK => ?_)
    go_simp
    refine hK.out _ _ (fun h => absurd h (by decide)) ?_
    clear hK K
    try simp only [pu]
    refine late_one (i := 16) rfl (by kernel_rfl) (fun K hK => ?_)
    go_simp
    refine hK.out _ _ (fun h => absurd h (by decide)) ?_
    clear hK K
    try simp only [pu]
    refine late_done (by kernel_rfl) ?_ _
    simp only [List.length_append, List.length_map, List.length_cons, List.length_nil, Nat.zero_add] at hR
    replace hR := (hR.setCell 3 (.slice R1 (P0.length + 1) p1)).setCell 4 (.slice R2 (P0.length + 1) p2)
    replace zG := (zG.set_ 3 (.slice R1 (P0.length + 1) p1)).set_ 4 (.slice R2 (P0.length + 1) p2)
    simp only [List.set_cons_zero, List.set_cons_succ, List.length_append, List.length_map, List.length_cons, List.length_nil, Nat.zero_add] at zG
    replace zR := zR.far (p := ⟨(w.heap.size + 1 + 1 + 1 + 1), 3, none⟩) (by first | (simp; done) | (simp; omega)) (.slice R1 (P0.length + 1) p1)
    replace zV := zV.far (p := ⟨(w.heap.size + 1 + 1 + 1 + 1), 3, none⟩) (by first | (simp; done) | (simp; omega)) (.slice R1 (P0.length + 1) p1)
    replace zB := zB.far (p := ⟨(w.heap.size + 1 + 1 + 1 + 1), 3, none⟩) (by first | (simp; done) | (simp; omega)) (.slice R1 (P0.length + 1) p1)
    replace zX := zX.far (p := ⟨(w.heap.size + 1 + 1 + 1 + 1), 3, none⟩) (by first | (simp; done) | (simp; omega)) (.slice R1 (P0.length + 1) p1)
    replace zR := zR.far (p := ⟨(w.heap.size + 1 + 1 + 1 + 1), 4, none⟩) (by first | (simp; done) | (simp; omega)) (.slice R2 (P0.length + 1) p2)
    replace zV := zV.far (p := ⟨(w.heap.size + 1 + 1 + 1 + 1), 4, none⟩) (by first | (simp; done) | (simp; omega)) (.slice R2 (P0.length + 1) p2)
    replace zB := zB.far (p := ⟨(w.heap.size + 1 + 1 + 1 + 1), 4, none⟩) (by first | (simp; done) | (simp; omega)) (.slice R2 (P0.length + 1) p2)
    replace zX := zX.far (p := ⟨(w.heap.size + 1 + 1 + 1 + 1), 4, none⟩) (by first | (simp; done) | (simp; omega)) (.slice R2 (P0.length + 1) p2)
    replace hw := (hw.setCell (p := ⟨(w.heap.size + 1 + 1 + 1 + 1), 3, none⟩) (by first | (simp; done) | (simp; omega)) (.slice R1 (P0.length + 1) p1)).setCell (p := ⟨(w.heap.size + 1 + 1 + 1 + 1), 4, none⟩) (by first | (simp; done) | (simp; omega)) (.slice R2 (P0.length + 1) p2)
    clear hS fz3 cz3 fz4 cz4 lz hg5 hv5 ho5 hg1 hv1 ho1
    obtain ⟨P1, hP1⟩ : ∃ P, P = P0 ++ [(fid, ValueD.mk lk ln lt li ll)] := ⟨_, rfl⟩
    have hPf : P0.map (·.1) ++ [fid] = P1.map (·.1) := by rw [hP1]; simp
    have hPs : P0.map (·.2) ++ [ValueD.mk lk ln lt li ll] = P1.map (·.2) := by rw [hP1]; simp
    rw [hPf, hPs] at hR
    clear hPf hPs
    have Hsucc := Lib.hid hsucc3.out
    rw [← hP1] at Hsucc
    have hP1l : P1.length ≤ 500006 := by rw [hP1]; simp; omega
    clear hsucc3 hP1 hr3 hb3
    have v3 := zV.cell 3
    have hlv := zV.lt
    simp only [List.getElem?_cons_zero, List.getElem?_cons_succ] at v3
    go_wp2_with fail
    clear v3 hlv
    go_loopw [49] (fun i wi => ∃ (j : Nat) (vi vl : Value), i = .int .i64 j ∧ j ≤ ids.length ∧ Rows2 (fun y => w.heap.size + 1 + 1 + 1 + 1 + 1 ≤ y ∨ (S' y ∧ y < w.heap.size)) (w.heap.size + 1 + 1 + 1 + 1 + 1) wi (w.heap.size + 1 + 1 + 1 + 1) vi vl ((P1 ++ ((ids.zip l).take j).filter (fun p => decide (p.1 = fid))).map (·.1)) ((P1 ++ ((ids.zip l).take j).filter (fun p => decide (p.1 = fid))).map (·.2)) ∧
     Box wi (w.heap.size + 1 + 1 + 1 + 1) 28 [.int .i64 2, .int .i64 0, .string ⟨#[]⟩, vi, vl] ∧ Box wi (w.heap.size + 1 + 1 + 1) 28 [.int .i64 0, .int .i64 0, .string ⟨#[]⟩, .slice none 0 0, .slice none 0 0] ∧ Box wi (w.heap.size + 1 + 1) 28 [.int .i64 kind, .int .i64 nn, .string s, .slice I1 ids.length d1, .slice I2 l.length d2] ∧ Box wi w.heap.size 24 [.slice A b.length cap] ∧ Box wi X 56 [.int .i64 fid, .string fname, .string ftype, .int .i64 fkind, .int .i64 frule] ∧ Below w.heap.size w wi) (fun i _ => ids.length - (intOf i).toNat)
    case atStart => exact ⟨0, _, _, rfl, by go_light; omega, by simpa using hR, zG, zR, zV, zB, zX, hw⟩
    case round =>
     clear hR zG zR zV zB zX hw
     obtain ⟨j, vi, vl, rfl, hj, hR, zG, zR, zV, zB, zX, hw⟩ := hrel
     by_cases hjl : j < ids.length
     ·have hjk : j < l.length := by go_light; have := Hll.out; omega
      obtain ⟨ig, io, rfl, hSi, hgi⟩ := HI.out.base (by go_light; omega)
      obtain ⟨lg, lo, rfl, hSl, hlgw⟩ := HL.out.base (by go_light; omega)
      have hci := (HI.out.flat (enc := fun x : Int => [.int .i64 x]) hjl).keep (Keep.of_below hw) hSi
      obtain ⟨es, _, hrx, hlies⟩ := HL.out.lies hjk
      have hsel : ((ids.zip l).take (j + 1)).filter (fun p => decide (p.1 = fid)) = ((ids.zip l).take j).filter (fun p => decide (p.1 = fid)) ++ (if ids[j] = fid then [(ids[j], l[j])] else []) := by
       rw [List.take_succ_eq_append_getElem (by rw [List.length_zip]; omega), List.filter_append]
       congr 1
       by_cases h : ids[j] = fid <;> simp [h]
      obtain ⟨idj, hid⟩ : ∃ id, id = ids[j] := ⟨_, rfl⟩
      obtain ⟨x, hx⟩ : ∃ x, x = l[j] := ⟨_, rfl⟩
      rw [← hid] at hci
      rw [← hx] at hrx
      rw [← hid, ← hx] at hsel
      obtain ⟨xk, xn, xs, xi, xl⟩ := x
      obtain ⟨E1, f1, E2, f2, rfl, _, _⟩ := hrx.parts
      have HXr := Lib.hid (RVal.fair.mono hrx (T := fun y => S' y ∧ y < w.heap.size) (fun y hy hl => ⟨hy, hl⟩))
      have HLs := Lib.hid hlies
      obtain ⟨Sj, hSj⟩ : ∃ S, S = ((ids.zip l).take j).filter (fun p => decide (p.1 = fid)) := ⟨_, rfl⟩
      have hSl2 : Sj.length ≤ 100000 := by
       rw [hSj]
       have := List.length_filter_le (fun p : Int × ValueD => decide (p.1 = fid)) ((ids.zip l).take j)
       rw [List.length_take, List.length_zip] at this
       omega
      rw [← hSj] at hR hsel
      have q0 : wr.cell? ⟨ig, io + j, none⟩ = some (.int .i64 idj) := by have := hci.at_ 0 rfl; simpa using this
      have hgil : ig < wr.heap.size := Nat.lt_of_lt_of_le hgi hw.size
      have c0 := zX.cell 0
      have hlX := zX.lt
      simp only [List.getElem?_cons_zero] at c0
      clear hci hrx hlies hid hx hSj
      by_cases heq : idj = fid
      ·have Hsel : Hid (P1 ++ ((ids.zip l).take (j + 1)).filter (fun p => decide (p.1 = fid)) = P1 ++ (Sj ++ [(idj, ValueD.mk xk xn xs xi xl)])) := by show _ = _; rw [hsel, if_pos heq]
       have heb : (idj == fid) = true := by simpa using heq
       clear heq hsel
       go_wp2_with fail
       clear c0 q0
       generalize hW9 : wr = W9 at *
       have HSK2 : Hid (∀ W', Box W' (w.heap.size + 1 + 1 + 1 + 1) 28 [.int .i64 2, .int .i64 0, .string ⟨#[]⟩, vi, vl] → Box W' X 56 [.int .i64 fid, .string fname, .string ftype, .int .i64 fkind, .int .i64 frule] → Box W' (w.heap.size + 1 + 1) 28 [.int .i64 kind, .int .i64 nn, .string s, .slice (some ⟨ig, io, none⟩) ids.length d1, .slice (some ⟨lg, lo, none⟩) l.length d2] → Box W' w.heap.size 24 [.slice A b.length cap] → Below w.heap.size w W' → (fun W' => (W'.cell? ⟨(w.heap.size + 1 + 1 + 1 + 1), 3, none⟩ = some vi ∧ W'.cell? ⟨(w.heap.size + 1 + 1 + 1 + 1), 4, none⟩ = some vl) ∧ W'.cell? ⟨w.heap.size + 1 + 1, 4, none⟩ = some (.slice (some ⟨lg, lo, none⟩) l.length d2) ∧ (W'.cell? ⟨lg, lo + j * 5, none⟩ = some (.int .i64 xk) ∧ W'.cell? ⟨lg, lo + j * 5 + 1, none⟩ = some (.int .i64 xn) ∧ W'.cell? ⟨lg, lo + j * 5 + 2, none⟩ = some (.string xs) ∧ W'.cell? ⟨lg, lo + j * 5 + 3, none⟩ = some (.slice E1 xi.length f1) ∧ W'.cell? ⟨lg, lo + j * 5 + 4, none⟩ = some (.slice E2 xl.length f2))) W') :=
        fun W' h1 _ h3 _ h5 => ⟨⟨h1.cell 3, h1.cell 4⟩, h3.cell 4, by
         have hc := HLs.out.keep (S := Old w) (Keep.of_below h5) hlgw
         exact ⟨hc.at_ 0 rfl, hc.at_ 1 rfl, hc.at_ 2 rfl, hc.at_ 3 rfl, hc.at_ 4 rfl⟩⟩
       have HSK := HSK2
       replace hR := hR.drew
       replace zG := zG.drew
       replace zR := zR.drew
       replace zV := zV.drew
       replace zB := zB.drew
       replace zX := zX.drew
       replace hw := below_drew hw
       have hS := trivial
       replace hS := HSK.out _ zG zX zV zB hw
       refine late_start (fun W' => (W'.cell? ⟨(w.heap.size + 1 + 1 + 1 + 1), 3, none⟩ = some vi ∧ W'.cell? ⟨(w.heap.size + 1 + 1 + 1 + 1), 4, none⟩ = some vl) ∧ W'.cell? ⟨w.heap.size + 1 + 1, 4, none⟩ = some (.slice (some ⟨lg, lo, none⟩) l.length d2) ∧ (W'.cell? ⟨lg, lo + j * 5, none⟩ = some (.int .i64 xk) ∧ W'.cell? ⟨lg, lo + j * 5 + 1, none⟩ = some (.int .i64 xn) ∧ W'.cell? ⟨lg, lo + j * 5 + 2, none⟩ = some (.string xs) ∧ W'.cell? ⟨lg, lo + j * 5 + 3, none⟩ = some (.slice E1 xi.length f1) ∧ W'.cell? ⟨lg, lo + j * 5 + 4, none⟩ = some (.slice E2 xl.length f2))) 15 (by kernel_rfl) ?_
       refine tkL 0 hS ?_
       try simp only [pu]
       refine tkL 1 hS ?_
       try simp only [pu]
       refine tkL 2 hS ?_
       try simp only [pu]
       refine tkL 5 hS ?_
       try simp only [pu]
       refine tkL 6 hS ?_
       try simp only [pu]
       refine tkL 7 hS ?_
       try simp only [pu]
       refine tkL 8 hS ?_
       try simp only [pu]
       refine tkL 9 hS ?_
       try simp only [pu]
       refine tkL 10 hS ?_
       try simp only [pu]
       refine tkL 11 hS ?_
       try simp only [pu]
       refine late_two (i := 3) (j := 12) rfl rfl (by kernel_rfl) (fun K hK => ?_) (fun K hK => ?_)
       ·go_simp
        have hZ1 := Box.newB hw 3 [.int .i64 idj]
        try simp only [World.size_alloc] at hZ1
        replace hR := hR.alloc (.cells #[.int .i64 idj] 3)
        replace zG := zG.alloc (.cells #[.int .i64 idj] 3)
        replace zR := zR.alloc (.cells #[.int .i64 idj] 3)
        replace zV := zV.alloc (.cells #[.int .i64 idj] 3)
        replace zB := zB.alloc (.cells #[.int .i64 idj] 3)
        replace zX := zX.alloc (.cells #[.int .i64 idj] 3)
        (first | (replace hZ2 := hZ2.alloc (.cells #[.int .i64 idj] 3)) | skip)
        replace hw := hw.alloc hw.size (.cells #[.int .i64 idj] 3)
        replace hS := HSK.out _ zG zX zV zB hw
        refine hK.out _ _ (fun _ => hS) ?_
        clear hK K
        try simp only [pu]
        refine late_two (i := 4) (j := 12) rfl rfl (by kernel_rfl) (fun K hK => ?_) (fun K hK => ?_)
        ·refine step_append _ rfl (.tmp 59) (.tmp 61) rfl sl_ints RInt.fair rfl rfl hR.ids (Src.one (es := [.int .i64 idj]) (y := idj) rfl (Ones.of_all rfl) rfl hZ1.lies) (NoT.lt _) (by go_light; simp; omega) hR.hb ?_
         intro v1 wk1 ho1 hg1 hv1
         have hR' := hR.push_id ho1 hg1 hv1
         replace zG := zG.grownR hR.ids (by first | exact .inl (by go_light; omega) | exact .inr (by decide)) hg1
         replace zR := zR.grownR hR.ids (by first | exact .inl (by go_light; omega) | exact .inr (by decide)) hg1
         replace zV := zV.grownR hR.ids (by first | exact .inl (by go_light; omega) | exact .inr (by decide)) hg1
         replace zB := zB.grownR hR.ids (by first | exact .inl (by go_light; omega) | exact .inr (by decide)) hg1
         replace zX := zX.grownR hR.ids (by first | exact .inl (by go_light; omega) | exact .inr (by decide)) hg1
         (first | (replace hZ2 := hZ2.grownR hR.ids (.inr (by decide)) hg1) | skip)
         replace hw := below_grown hw hg1 hw.size (fun g' h => by go_light; have := (hR.ilt h).1; omega)
         replace hR := hR'
         clear hR'
         replace hS := HSK.out _ zG zX zV zB hw
         refine hK.out _ _ (fun _ => hS) ?_
         clear hK K
         try simp only [pu]
         refine tkL 14 hS ?_
         try simp only [pu]
         refine late_one (i := 12) rfl (by kernel_rfl) (fun K hK => ?_)
         go_simp
         have hZ2 := Box.newB hw 28 [.int .i64 xk, .int .i64 xn, .string xs, .slice E1 xi.length f1, .slice E2 xl.length f2]
         try simp only [World.size_alloc] at hZ2
         replace hR := hR.alloc (.cells [.int .i64 xk, .int .i64 xn, .string xs, .slice E1 xi.length f1, .slice E2 xl.length f2].toArray 28)
         replace zG := zG.alloc (.cells [.int .i64 xk, .int .i64 xn, .string xs, .slice E1 xi.length f1, .slice E2 xl.length f2].toArray 28)
         replace zR := zR.alloc (.cells [.int .i64 xk, .int .i64 xn, .string xs, .slice E1 xi.length f1, .slice E2 xl.length f2].toArray 28)
         replace zV := zV.alloc (.cells [.int .i64 xk, .int .i64 xn, .string xs, .slice E1 xi.length f1, .slice E2 xl.length f2].toArray 28)
         replace zB := zB.alloc (.cells [.int .i64 xk, .int .i64 xn, .string xs, .slice E1 xi.length f1, .slice E2 xl.length f2].toArray 28)
         replace zX := zX.alloc (.cells [.int .i64 xk, .int .i64 xn, .string xs, .slice E1 xi.length f1, .slice E2 xl.length f2].toArray 28)
         (first | (replace hZ1 := hZ1.alloc (.cells [.int .i64 xk, .int .i64 xn, .string xs, .slice E1 xi.length f1, .slice E2 xl.length f2].toArray 28)) | skip)
         replace hw := hw.alloc hw.size (.cells [.int .i64 xk, .int .i64 xn, .string xs, .slice E1 xi.length f1, .slice E2 xl.length f2].toArray 28)
         replace hS := HSK.out _ zG zX zV zB hw
         refine hK.out _ _ (fun _ => hS) ?_
         clear hK K
         try simp only [pu]
         refine late_one (i := 13) rfl (by kernel_rfl) (fun K hK => ?_)
         refine step_append _ rfl (.tmp 64) (.tmp 70) rfl sl_vals RVal.fair rfl rfl hR.lrow (Src.one (es := [.int .i64 xk, .int .i64 xn, .string xs, .slice E1 xi.length f1, .slice E2 xl.length f2]) (y := ValueD.mk xk xn xs xi xl) rfl (Ones.of_all rfl) (hR.apart (RVal.fair.keep HXr.out (Keep.of_below hw)) (fun y hy _ => ⟨.inr ⟨by go_light; have := hy.2; omega, by go_light; have := hy.2; omega⟩, .inr hy⟩)) hZ2.lies) (fun _ h => h.2) (by go_light; simp; omega) hR.hb ?_
         intro v5 w5 ho5 hg5 hv5
         have hR' := hR.push_l ho5 hg5 hv5
         replace zG := zG.grownR hR.l (by first | exact .inl (by go_light; omega) | exact .inr (by decide)) hg5
         replace zR := zR.grownR hR.l (by first | exact .inl (by go_light; omega) | exact .inr (by decide)) hg5
         replace zV := zV.grownR hR.l (by first | exact .inl (by go_light; omega) | exact .inr (by decide)) hg5
         replace zB := zB.grownR hR.l (by first | exact .inl (by go_light; omega) | exact .inr (by decide)) hg5
         replace zX := zX.grownR hR.l (by first | exact .inl (by go_light; omega) | exact .inr (by decide)) hg5
         replace hw := below_grown hw hg5 hw.size (fun g' h => by go_light; have := (hR.llt h).1; omega)
         replace hR := hR'
         clear hR'
         replace hS := HSK.out _ zG zX zV zB hw
         have fz3 := zG.frozen 3
         have cz3 := zG.cell 3
         have fz4 := zG.frozen 4
         have cz4 := zG.cell 4
         have lz := zG.lt
         simp only [List.getElem?_cons_zero, List.getElem?_cons_succ] at cz3 cz4
         obtain ⟨R1, p1, rfl, _⟩ := hR.ids.form
         obtain ⟨R2, p2, rfl, _⟩ := hR.l.form
         refine hK.out _ _ (fun _ => hS) ?_
         clear hK K
         try simp only [pu]
         refine late_one (i := 15) rfl (by kernel_rfl) (fun K hK => ?_)
         go_simp
         refine hK.out _ _ (fun h => absurd h (by decide)) ?_
         clear hK K
         try simp only [pu]
         refine late_one (i := 16) rfl (by kernel_rfl) (fun K hK => ?_)
         go_simp
         refine hK.out _ _ (fun h => absurd h (by decide)) ?_
         clear hK K
         try simp only [pu]
         refine late_one (i := 17) rfl (by kernel_rfl) (fun K hK => ?_)
         go_simp
         refine hK.out _ _ (fun h => absurd h (by decide)) ?_
         clear hK K
         try simp only [pu]
         refine late_done (by kernel_rfl) ?_ _
         simp only [List.length_append, List.length_map, List.length_cons, List.length_nil, Nat.zero_add] at hR
         replace hR := (hR.setCell 3 (.slice R1 (P1.length + Sj.length + 1) p1)).setCell 4 (.slice R2 (P1.length + Sj.length + 1) p2)
         replace zG := (zG.set_ 3 (.slice R1 (P1.length + Sj.length + 1) p1)).set_ 4 (.slice R2 (P1.length + Sj.length + 1) p2)
         simp only [List.set_cons_zero, List.set_cons_succ, List.length_append, List.length_map, List.length_cons, List.length_nil, Nat.zero_add] at zG
         replace zR := zR.far (p := ⟨(w.heap.size + 1 + 1 + 1 + 1), 3, none⟩) (by first | (simp; done) | (simp; omega)) (.slice R1 (P1.length + Sj.length + 1) p1)
         replace zV := zV.far (p := ⟨(w.heap.size + 1 + 1 + 1 + 1), 3, none⟩) (by first | (simp; done) | (simp; omega)) (.slice R1 (P1.length + Sj.length + 1) p1)
         replace zB := zB.far (p := ⟨(w.heap.size + 1 + 1 + 1 + 1), 3, none⟩) (by first | (simp; done) | (simp; omega)) (.slice R1 (P1.length + Sj.length + 1) p1)
         replace zX := zX.far (p := ⟨(w.heap.size + 1 + 1 + 1 + 1), 3, none⟩) (by first | (simp; done) | (simp; omega)) (.slice R1 (P1.length + Sj.length + 1) p1)
         replace zR := zR.far (p := ⟨(w.heap.size + 1 + 1 + 1 + 1), 4, none⟩) (by first | (simp; done) | (simp; omega)) (.slice R2 (P1.length + Sj.length + 1) p2)
         replace zV := zV.far (p := ⟨(w.heap.size + 1 + 1 + 1 + 1), 4, none⟩) (by first | (simp; done) | (simp; omega)) (.slice R2 (P1.length + Sj.length + 1) p2)
         replace zB := zB.far (p := ⟨(w.heap.size + 1 + 1 + 1 + 1), 4, none⟩) (by first | (simp; done) | (simp; omega)) (.slice R2 (P1.length + Sj.length + 1) p2)
         replace zX := zX.far (p := ⟨(w.heap.size + 1 + 1 + 1 + 1), 4, none⟩) (by first | (simp; done) | (simp; omega)) (.slice R2 (P1.length + Sj.length + 1) p2)
         replace hw := (hw.setCell (p := ⟨(w.heap.size + 1 + 1 + 1 + 1), 3, none⟩) (by first | (simp; done) | (simp; omega)) (.slice R1 (P1.length + Sj.length + 1) p1)).setCell (p := ⟨(w.heap.size + 1 + 1 + 1 + 1), 4, none⟩) (by first | (simp; done) | (simp; omega)) (.slice R2 (P1.length + Sj.length + 1) p2)
         clear hS fz3 cz3 fz4 cz4 lz hg5 hv5 ho5 hg1 hv1 ho1
         go_wp2_with fail
         go_roundw
         case rel => exact ⟨j + 1, _, _, by go_num, by go_light; omega, by rw [Hsel.out]; simpa [Nat.add_assoc] using hR, zG, zR, zV, zB, zX, hw⟩
         case measure => go_light; simp [intOf]; omega
        ·go_simp
         have hZ2 := Box.newB hw 28 [.int .i64 xk, .int .i64 xn, .string xs, .slice E1 xi.length f1, .slice E2 xl.length f2]
         try simp only [World.size_alloc] at hZ2
         replace hR := hR.alloc (.cells [.int .i64 xk, .int .i64 xn, .string xs, .slice E1 xi.length f1, .slice E2 xl.length f2].toArray 28)
         replace zG := zG.alloc (.cells [.int .i64 xk, .int .i64 xn, .string xs, .slice E1 xi.length f1, .slice E2 xl.length f2].toArray 28)
         replace zR := zR.alloc (.cells [.int .i64 xk, .int .i64 xn, .string xs, .slice E1 xi.length f1, .slice E2 xl.length f2].toArray 28)
         replace zV := zV.alloc (.cells [.int .i64 xk, .int .i64 xn, .string xs, .slice E1 xi.length f1, .slice E2 xl.length f2].toArray 28)
         replace zB := zB.alloc (.cells [.int .i64 xk, .int .i64 xn, .string xs, .slice E1 xi.length f1, .slice E2 xl.length f2].toArray 28)
         replace zX := zX.alloc (.cells [.int .i64 xk, .int .i64 xn, .string xs, .slice E1 xi.length f1, .slice E2 xl.length f2].toArray 28)
         (first | (replace hZ1 := hZ1.alloc (.cells [.int .i64 xk, .int .i64 xn, .string xs, .slice E1 xi.length f1, .slice E2 xl.length f2].toArray 28)) | skip)
         replace hw := hw.alloc hw.size (.cells [.int .i64 xk, .int .i64 xn, .string xs, .slice E1 xi.length f1, .slice E2 xl.length f2].toArray 28)
         replace hS := HSK.out _ zG zX zV zB hw
         refine hK.out _ _ (fun _ => hS) ?_
         clear hK K
         try simp only [pu]
         refine late_one (i := 4) rfl (by kernel_rfl) (fun K hK => ?_)
         refine step_append _ rfl (.tmp 59) (.tmp 61) rfl sl_ints RInt.fair rfl rfl hR.ids (Src.one (es := [.int .i64 idj]) (y := idj) rfl (Ones.of_all rfl) rfl hZ1.lies) (NoT.lt _) (by go_light; simp; omega) hR.hb ?_
         intro v1 wk1 ho1 hg1 hv1
         have hR' := hR.push_id ho1 hg1 hv1
         replace zG := zG.grownR hR.ids (by first | exact .inl (by go_light; omega) | exact .inr (by decide)) hg1
         replace zR := zR.grownR hR.ids (by first | exact .inl (by go_light; omega) | exact .inr (by decide)) hg1
         replace zV := zV.grownR hR.ids (by first | exact .inl (by go_light; omega) | exact .inr (by decide)) hg1
         replace zB := zB.grownR hR.ids (by first | exact .inl (by go_light; omega) | exact .inr (by decide)) hg1
         replace zX := zX.grownR hR.ids (by first | exact .inl (by go_light; omega) | exact .inr (by decide)) hg1
         (first | (replace hZ2 := hZ2.grownR hR.ids (.inr (by decide)) hg1) | skip)
         replace hw := below_grown hw hg1 hw.size (fun g' h => by go_light; have := (hR.ilt h).1; omega)
         replace hR := hR'
         clear hR'
         replace hS := HSK.out _ zG zX zV zB hw
         refine hK.out _ _ (fun _ => hS) ?_
         clear hK K
         try simp only [pu]
         refine tkL 14 hS ?_
         try simp only [pu]
         refine late_one (i := 13) rfl (by kernel_rfl) (fun K hK => ?_)
         refine step_append _ rfl (.tmp 64) (.tmp 70) rfl sl_vals RVal.fair rfl rfl hR.lrow (Src.one (es := [.int .i64 xk, .int .i64 xn, .string xs, .slice E1 xi.length f1, .slice E2 xl.length f2]) (y := ValueD.mk xk xn xs xi xl) rfl (Ones.of_all rfl) (hR.apart (RVal.fair.keep HXr.out (Keep.of_below hw)) (fun y hy _ => ⟨.inr ⟨by go_light; have := hy.2; omega, by go_light; have := hy.2; omega⟩, .inr hy⟩)) hZ2.lies) (fun _ h => h.2) (by go_light; simp; omega) hR.hb ?_
         intro v5 w5 ho5 hg5 hv5
         have hR' := hR.push_l ho5 hg5 hv5
         replace zG := zG.grownR hR.l (by first | exact .inl (by go_light; omega) | exact .inr (by decide)) hg5
         replace zR := zR.grownR hR.l (by first | exact .inl (by go_light; omega) | exact .inr (by decide)) hg5
         replace zV := zV.grownR hR.l (by first | exact .inl (by go_light; omega) | exact .inr (by decide)) hg5
         replace zB := zB.grownR hR.l (by first | exact .inl (by go_light; omega) | exact .inr (by decide)) hg5
         replace zX := zX.grownR hR.l (by first | exact .inl (by go_light; omega) | exact .inr (by decide)) hg5
         replace hw := below_grown hw hg5 hw.size (fun g' h => by go_light; have := (hR.llt h).1; omega)
         replace hR := hR'
         clear hR'
         replace hS := HSK.out _ zG zX zV zB hw
         have fz3 := zG.frozen 3
         have cz3 := zG.cell 3
         have fz4 := zG.frozen 4
         have cz4 := zG.cell 4
         have lz := zG.lt
         simp only [List.getElem?_cons_zero, List.getElem?_cons_succ] at cz3 cz4
         obtain ⟨R1, p1, rfl, _⟩ := hR.ids.form
         obtain ⟨R2, p2, rfl, _⟩ := hR.l.form
         refine hK.out _ _ (fun _ => hS) ?_
         clear hK K
         try simp only [pu]
         refine late_one (i := 15) rfl (by kernel_rfl) (fun K hK => ?_)
         go_simp
         refine hK.out _ _ (fun h => absurd h (by decide)) ?_
         clear hK K
         try simp only [pu]
         refine late_one (i := 16) rfl (by kernel_rfl) (fun K hK => ?_)
         go_simp
         refine hK.out _ _ (fun h => absurd h (by decide)) ?_
         clear hK K
         try simp only [pu]
         refine late_one (i := 17) rfl (by kernel_rfl) (fun K hK => ?_)
         go_simp
         refine hK.out _ _ (fun h => absurd h (by decide)) ?_
         clear hK K
         try simp only [pu]
         refine late_done (by kernel_rfl) ?_ _
         simp only [List.length_append, List.length_map, List.length_cons, List.length_nil, Nat.zero_add] at hR
         replace hR := (hR.setCell 3 (.slice R1 (P1.length + Sj.length + 1) p1)).setCell 4 (.slice R2 (P1.length + Sj.length + 1) p2)
         replace zG := (zG.set_ 3 (.slice R1 (P1.length + Sj.length + 1) p1)).set_ 4 (.slice R2 (P1.length + Sj.length + 1) p2)
         simp only [List.set_cons_zero, List.set_cons_succ, List.length_append, List.length_map, List.length_cons, List.length_nil, Nat.zero_add] at zG
         replace zR := zR.far (p := ⟨(w.heap.size + 1 + 1 + 1 + 1), 3, none⟩) (by first | (simp; done) | (simp; omega)) (.slice R1 (P1.length + Sj.length + 1) p1)
         replace zV := zV.far (p := ⟨(w.heap.size + 1 + 1 + 1 + 1), 3, none⟩) (by first | (simp; done) | (simp; omega)) (.slice R1 (P1.length + Sj.length + 1) p1)
         replace zB := zB.far (p := ⟨(w.heap.size + 1 + 1 + 1 + 1), 3, none⟩) (by first | (simp; done) | (simp; omega)) (.slice R1 (P1.length + Sj.length + 1) p1)
         replace zX := zX.far (p := ⟨(w.heap.size + 1 + 1 + 1 + 1), 3, none⟩) (by first | (simp; done) | (simp; omega)) (.slice R1 (P1.length + Sj.length + 1) p1)
         replace zR := zR.far (p := ⟨(w.heap.size + 1 + 1 + 1 + 1), 4, none⟩) (by first | (simp; done) | (simp; omega)) (.slice R2 (P1.length + Sj.length + 1) p2)
         replace zV := zV.far (p := ⟨(w.heap.size + 1 + 1 + 1 + 1), 4, none⟩) (by first | (simp; done) | (simp; omega)) (.slice R2 (P1.length + Sj.length + 1) p2)
         replace zB := zB.far (p := ⟨(w.heap.size + 1 + 1 + 1 + 1), 4, none⟩) (by first | (simp; done) | (simp; omega)) (.slice R2 (P1.length + Sj.length + 1) p2)
         replace zX := zX.far (p := ⟨(w.heap.size + 1 + 1 + 1 + 1), 4, none⟩) (by first | (simp; done) | (simp; omega)) (.slice R2 (P1.length + Sj.length + 1) p2)
         replace hw := (hw.setCell (p := ⟨(w.heap.size + 1 + 1 + 1 + 1), 3, none⟩) (by first | (simp; done) | (simp; omega)) (.slice R1 (P1.length + Sj.length + 1) p1)).setCell (p := ⟨(w.heap.size + 1 + 1 + 1 + 1), 4, none⟩) (by first | (simp; done) | (simp; omega)) (.slice R2 (P1.length + Sj.length + 1) p2)
         clear hS fz3 cz3 fz4 cz4 lz hg5 hv5 ho5 hg1 hv1 ho1
         go_wp2_with fail
         go_roundw
         case rel => exact ⟨j + 1, _, _, by go_num, by go_light; omega, by rw [Hsel.out]; simpa [Nat.add_assoc] using hR, zG, zR, zV, zB, zX, hw⟩
         case measure => go_light; simp [intOf]; omega
       ·go_simp
        have hZ2 := Box.newB hw 28 [.int .i64 xk, .int .i64 xn, .string xs, .slice E1 xi.length f1, .slice E2 xl.length f2]
        try simp only [World.size_alloc] at hZ2
        replace hR := hR.alloc (.cells [.int .i64 xk, .int .i64 xn, .string xs, .slice E1 xi.length f1, .slice E2 xl.length f2].toArray 28)
        replace zG := zG.alloc (.cells [.int .i64 xk, .int .i64 xn, .string xs, .slice E1 xi.length f1, .slice E2 xl.length f2].toArray 28)
        replace zR := zR.alloc (.cells [.int .i64 xk, .int .i64 xn, .string xs, .slice E1 xi.length f1, .slice E2 xl.length f2].toArray 28)
        replace zV := zV.alloc (.cells [.int .i64 xk, .int .i64 xn, .string xs, .slice E1 xi.length f1, .slice E2 xl.length f2].toArray 28)
        replace zB := zB.alloc (.cells [.int .i64 xk, .int .i64 xn, .string xs, .slice E1 xi.length f1, .slice E2 xl.length f2].toArray 28)
        replace zX := zX.alloc (.cells [.int .i64 xk, .int .i64 xn, .string xs, .slice E1 xi.length f1, .slice E2 xl.length f2].toArray 28)
        (first | (replace hZ1 := hZ1.alloc (.cells [.int .i64 xk, .int .i64 xn, .string xs, .slice E1 xi.length f1, .slice E2 xl.length f2].toArray 28)) | skip)
        replace hw := hw.alloc hw.size (.cells [.int .i64 xk, .int .i64 xn, .string xs, .slice E1 xi.length f1, .slice E2 xl.length f2].toArray 28)
        replace hS := HSK.out _ zG zX zV zB hw
        refine hK.out _ _ (fun _ => hS) ?_
        clear hK K
        try simp only [pu]
        refine late_one (i := 3) rfl (by kernel_rfl) (fun K hK => ?_)
        go_simp
        have hZ1 := Box.newB hw 3 [.int .i64 idj]
        try simp only [World.size_alloc] at hZ1
        replace hR := hR.alloc (.cells #[.int .i64 idj] 3)
        replace zG := zG.alloc (.cells #[.int .i64 idj] 3)
        replace zR := zR.alloc (.cells #[.int .i64 idj] 3)
        replace zV := zV.alloc (.cells #[.int .i64 idj] 3)
        replace zB := zB.alloc (.cells #[.int .i64 idj] 3)
        replace zX := zX.alloc (.cells #[.int .i64 idj] 3)
        (first | (replace hZ2 := hZ2.alloc (.cells #[.int .i64 idj] 3)) | skip)
        replace hw := hw.alloc hw.size (.cells #[.int .i64 idj] 3)
        replace hS := HSK.out _ zG zX zV zB hw
        refine hK.out _ _ (fun _ => hS) ?_
        clear hK K
        try simp only [pu]
        refine late_one (i := 4) rfl (by kernel_rfl) (fun K hK => ?_)
        refine step_append _ rfl (.tmp 59) (.tmp 61) rfl sl_ints RInt.fair rfl rfl hR.ids (Src.one (es := [.int .i64 idj]) (y := idj) rfl (Ones.of_all rfl) rfl hZ1.lies) (NoT.lt _) (by go_light; simp; omega) hR.hb ?_
        intro v1 wk1 ho1 hg1 hv1
        have hR' := hR.push_id ho1 hg1 hv1
        replace zG := zG.grownR hR.ids (by first | exact .inl (by go_light; omega) | exact .inr (by decide)) hg1
        replace zR := zR.grownR hR.ids (by first | exact .inl (by go_light; omega) | exact .inr (by decide)) hg1
        replace zV := zV.grownR hR.ids (by first | exact .inl (by go_light; omega) | exact .inr (by decide)) hg1
        replace zB := zB.grownR hR.ids (by first | exact .inl (by go_light; omega) | exact .inr (by decide)) hg1
        replace zX := zX.grownR hR.ids (by first | exact .inl (by go_light; omega) | exact .inr (by decide)) hg1
        (first | (replace hZ2 := hZ2.grownR hR.ids (.inr (by decide)) hg1) | skip)
        replace hw := below_grown hw hg1 hw.size (fun g' h => by go_light; have := (hR.ilt h).1; omega)
        replace hR := hR'
        clear hR'
        replace hS := HSK.out _ zG zX zV zB hw
        refine hK.out _ _ (fun _ => hS) ?_
        clear hK K
        try simp only [pu]
        refine tkL 14 hS ?_
        try simp only [pu]
        refine late_one (i := 13) rfl (by kernel_rfl) (fun K hK => ?_)
        refine step_append _ rfl (.tmp 64) (.tmp 70) rfl sl_vals RVal.fair rfl rfl hR.lrow (Src.one (es := [.int .i64 xk, .int .i64 xn, .string xs, .slice E1 xi.length f1, .slice E2 xl.length f2]) (y := ValueD.mk xk xn xs xi xl) rfl (Ones.of_all rfl) (hR.apart (RVal.fair.keep HXr.out (Keep.of_below hw)) (fun y hy _ => ⟨.inr ⟨by go_light; have := hy.2; omega, by go_light; have := hy.2; omega⟩, .inr hy⟩)) hZ2.lies) (fun _ h => h.2) (by go_light; simp; omega) hR.hb ?_
        intro v5 w5 ho5 hg5 hv5
        have hR' := hR.push_l ho5 hg5 hv5
        replace zG := zG.grownR hR.l (by first | exact .inl (by go_light; omega) | exact .inr (by decide)) hg5
        replace zR := zR.grownR hR.l (by first | exact .inl (by go_light; omega) | exact .inr (by decide)) hg5
        replace zV := zV.grownR hR.l (by first | exact .inl (by go_light; omega) | exact .inr (by decide)) hg5
        replace zB := zB.grownR hR.l (by first | exact .inl (by go_light; omega) | exact .inr (by decide)) hg5
        replace zX := zX.grownR hR.l (by first | exact .inl (by go_light; omega) | exact .inr (by decide)) hg5
        replace hw := below_grown hw hg5 hw.size (fun g' h => by go_light; have := (hR.llt h).1; omega)
        replace hR := hR'
        clear hR'
        replace hS := HSK.out _ zG zX zV zB hw
        have fz3 := zG.frozen 3
        have cz3 := zG.cell 3
        have fz4 := zG.frozen 4
        have cz4 := zG.cell 4
        have lz := zG.lt
        simp only [List.getElem?_cons_zero, List.getElem?_cons_succ] at cz3 cz4
        obtain ⟨R1, p1, rfl, _⟩ := hR.ids.form
        obtain ⟨R2, p2, rfl, _⟩ := hR.l.form
        refine hK.out _ _ (fun _ => hS) ?_
        clear hK K
        try simp only [pu]
        refine late_one (i := 15) rfl (by kernel_rfl) (fun K hK => ?_)
        go_simp
        refine hK.out _ _ (fun h => absurd h (by decide)) ?_
        clear hK K
        try simp only [pu]
        refine late_one (i := 16) rfl (by kernel_rfl) (fun K hK => ?_)
        go_simp
        refine hK.out _ _ (fun h => absurd h (by decide)) ?_
        clear hK K
        try simp only [pu]
        refine late_one (i := 17) rfl (by kernel_rfl) (fun K hK => ?_)
        go_simp
        refine hK.out _ _ (fun h => absurd h (by decide)) ?_
        clear hK K
        try simp only [pu]
        refine late_done (by kernel_rfl) ?_ _
        simp only [List.length_append, List.length_map, List.length_cons, List.length_nil, Nat.zero_add] at hR
        replace hR := (hR.setCell 3 (.slice R1 (P1.length + Sj.length + 1) p1)).setCell 4 (.slice R2 (P1.length + Sj.length + 1) p2)
        replace zG := (zG.set_ 3 (.slice R1 (P1.length + Sj.length + 1) p1)).set_ 4 (.slice R2 (P1.length + Sj.length + 1) p2)
        simp only [List.set_cons_zero, List.set_cons_succ, List.length_append, List.length_map, List.length_cons, List.length_nil, Nat.zero_add] at zG
        replace zR := zR.far (p := ⟨(w.heap.size + 1 + 1 + 1 + 1), 3, none⟩) (by first | (simp; done) | (simp; omega)) (.slice R1 (P1.length + Sj.length + 1) p1)
        replace zV := zV.far (p := ⟨(w.heap.size + 1 + 1 + 1 + 1), 3, none⟩) (by first | (simp; done) | (simp; omega)) (.slice R1 (P1.length + Sj.length + 1) p1)
        replace zB := zB.far (p := ⟨(w.heap.size + 1 + 1 + 1 + 1), 3, none⟩) (by first | (simp; done) | (simp; omega)) (.slice R1 (P1.length + Sj.length + 1) p1)
        replace zX := zX.far (p := ⟨(w.heap.size + 1 + 1 + 1 + 1), 3, none⟩) (by first | (simp; done) | (simp; omega)) (.slice R1 (P1.length + Sj.length + 1) p1)
        replace zR := zR.far (p := ⟨(w.heap.size + 1 + 1 + 1 + 1), 4, none⟩) (by first | (simp; done) | (simp; omega)) (.slice R2 (P1.length + Sj.length + 1) p2)
        replace zV := zV.far (p := ⟨(w.heap.size + 1 + 1 + 1 + 1), 4, none⟩) (by first | (simp; done) | (simp; omega)) (.slice R2 (P1.length + Sj.length + 1) p2)
        replace zB := zB.far (p := ⟨(w.heap.size + 1 + 1 + 1 + 1), 4, none⟩) (by first | (simp; done) | (simp; omega)) (.slice R2 (P1.length + Sj.length + 1) p2)
        replace zX := zX.far (p := ⟨(w.heap.size + 1 + 1 + 1 + 1), 4, none⟩) (by first | (simp; done) | (simp; omega)) (.slice R2 (P1.length + Sj.length + 1) p2)
        replace hw := (hw.setCell (p := ⟨(w.heap.size + 1 + 1 + 1 + 1), 3, none⟩) (by first | (simp; done) | (simp; omega)) (.slice R1 (P1.length + Sj.length + 1) p1)).setCell (p := ⟨(w.heap.size + 1 + 1 + 1 + 1), 4, none⟩) (by first | (simp; done) | (simp; omega)) (.slice R2 (P1.length + Sj.length + 1) p2)
        clear hS fz3 cz3 fz4 cz4 lz hg5 hv5 ho5 hg1 hv1 ho1
        go_wp2_with fail
        go_roundw
        case rel => exact ⟨j + 1, _, _, by go_num, by go_light; omega, by rw [Hsel.out]; simpa [Nat.add_assoc] using hR, zG, zR, zV, zB, zX, hw⟩
        case measure => go_light; simp [intOf]; omega
      ·have Hsel : Hid (P1 ++ ((ids.zip l).take (j + 1)).filter (fun p => decide (p.1 = fid)) = P1 ++ Sj) := by show _ = _; rw [hsel, if_neg heq, List.append_nil]
       have heb : (idj == fid) = false := by simpa using heq
       clear heq hsel
       go_wp2_with fail
       go_roundw
       case rel => exact ⟨j + 1, _, _, by go_num, by go_light; omega, by rw [Hsel.out]; exact hR, zG, zR, zV, zB, zX, hw⟩
       case measure => go_light; simp [intOf]; omega
     ·have hfull : (ids.zip l).take j = ids.zip l := List.take_of_length_le (by rw [List.length_zip]; omega)
      rw [hfull, ← Hsucc.out] at hR
      go_wp2_with fail
      go_roundw
      case rel => exact ⟨n + 1, _, _, by go_num, by go_light; omega, hR, zG, zR, zV, zB, hw⟩
      case measure => go_light; simp [intOf]; omega
   ·have hsucc3 : Hid (fillTo b t ids l (n + 1) = P0 ++ (ids.zip l).filter (fun p => decide (p.1 = fid))) := by
     show _ = _
     rw [hsucc2.out, if_neg hput, List.nil_append]
    have hP1l : P0.length ≤ 500006 := by go_light; have := Hl2.out; omega
    have Hsucc := Lib.hid hsucc3.out
    obtain ⟨P1, hP1⟩ : ∃ P, P = P0 := ⟨_, rfl⟩
    rw [← hP1] at Hsucc hP1l hR
    by_cases hr1 : frule = 1
    ·have hrb : (frule == 1) = true := by simpa using hr1
     obtain rfl : hh = true := by
      cases hh with
      | true => rfl
      | false => exact absurd ⟨hr1, rfl⟩ hput
     clear hsucc3 hsucc2 Hl2 hput hr1 hP1
     go_wp2_with fail
     refine (Hcall.out _ HIa.out).mono ?_
     rintro e w' ⟨rfl, rfl⟩
     go_wp2_with fail
     clear q0 q1 q2 q3 q4 v3 hlv
     generalize hWW : wr.alloc (.cells #[.int .i64 fid, .string fname, .string ftype, .int .i64 fkind, .int .i64 frule] 56) = W0 at *
     have hXl : wr.heap.size < W0.heap.size := zX.lt
     generalize hXX : wr.heap.size = X at *
     clear hWW hXX
     have v3 := zV.cell 3
     have hlv := zV.lt
     simp only [List.getElem?_cons_zero, List.getElem?_cons_succ] at v3
     go_wp2_with fail
     clear v3 hlv
     go_loopw [49] (fun i wi => ∃ (j : Nat) (vi vl : Value), i = .int .i64 j ∧ j ≤ ids.length ∧ Rows2 (fun y => w.heap.size + 1 + 1 + 1 + 1 + 1 ≤ y ∨ (S' y ∧ y < w.heap.size)) (w.heap.size + 1 + 1 + 1 + 1 + 1) wi (w.heap.size + 1 + 1 + 1 + 1) vi vl ((P1 ++ ((ids.zip l).take j).filter (fun p => decide (p.1 = fid))).map (·.1)) ((P1 ++ ((ids.zip l).take j).filter (fun p => decide (p.1 = fid))).map (·.2)) ∧
      Box wi (w.heap.size + 1 + 1 + 1 + 1) 28 [.int .i64 2, .int .i64 0, .string ⟨#[]⟩, vi, vl] ∧ Box wi (w.heap.size + 1 + 1 + 1) 28 [.int .i64 0, .int .i64 0, .string ⟨#[]⟩, .slice none 0 0, .slice none 0 0] ∧ Box wi (w.heap.size + 1 + 1) 28 [.int .i64 kind, .int .i64 nn, .string s, .slice I1 ids.length d1, .slice I2 l.length d2] ∧ Box wi w.heap.size 24 [.slice A b.length cap] ∧ Box wi X 56 [.int .i64 fid, .string fname, .string ftype, .int .i64 fkind, .int .i64 frule] ∧ Below w.heap.size w wi) (fun i _ => ids.length - (intOf i).toNat)
     case atStart => exact ⟨0, _, _, rfl, by go_light; omega, by simpa using hR, zG, zR, zV, zB, zX, hw⟩
     case round =>
      clear hR zG zR zV zB zX hw
      obtain ⟨j, vi, vl, rfl, hj, hR, zG, zR, zV, zB, zX, hw⟩ := hrel
      by_cases hjl : j < ids.length
      ·have hjk : j < l.length := by go_light; have := Hll.out; omega
       obtain ⟨ig, io, rfl, hSi, hgi⟩ := HI.out.base (by go_light; omega)
       obtain ⟨lg, lo, rfl, hSl, hlgw⟩ := HL.out.base (by go_light; omega)
       have hci := (HI.out.flat (enc := fun x : Int => [.int .i64 x]) hjl).keep (Keep.of_below hw) hSi
       obtain ⟨es, _, hrx, hlies⟩ := HL.out.lies hjk
       have hsel : ((ids.zip l).take (j + 1)).filter (fun p => decide (p.1 = fid)) = ((ids.zip l).take j).filter (fun p => decide (p.1 = fid)) ++ (if ids[j] = fid then [(ids[j], l[j])] else []) := by
        rw [List.take_succ_eq_append_getElem (by rw [List.length_zip]; omega), List.filter_append]
        congr 1
        by_cases h : ids[j] = fid <;> simp [h]
       obtain ⟨idj, hid⟩ : ∃ id, id = ids[j] := ⟨_, rfl⟩
       obtain ⟨x, hx⟩ : ∃ x, x = l[j] := ⟨_, rfl⟩
       rw [← hid] at hci
       rw [← hx] at hrx
       rw [← hid, ← hx] at hsel
       obtain ⟨xk, xn, xs, xi, xl⟩ := x
       obtain ⟨E1, f1, E2, f2, rfl, _, _⟩ := hrx.parts
       have HXr := Lib.hid (RVal.fair.mono hrx (T := fun y => S' y ∧ y < w.heap.size) (fun y hy hl => ⟨hy, hl⟩))
       have HLs := Lib.hid hlies
       obtain ⟨Sj, hSj⟩ : ∃ S, S = ((ids.zip l).take j).filter (fun p => decide (p.1 = fid)) := ⟨_, rfl⟩
       have hSl2 : Sj.length ≤ 100000 := by
        rw [hSj]
        have := List.length_filter_le (fun p : Int × ValueD => decide (p.1 = fid)) ((ids.zip l).take j)
        rw [List.length_take, List.length_zip] at this
        omega
       rw [← hSj] at hR hsel
       have q0 : wr.cell? ⟨ig, io + j, none⟩ = some (.int .i64 idj) := by have := hci.at_ 0 rfl; simpa using this
       have hgil : ig < wr.heap.size := Nat.lt_of_lt_of_le hgi hw.size
       have c0 := zX.cell 0
       have hlX := zX.lt
       simp only [List.getElem?_cons_zero] at c0
       clear hci hrx hlies hid hx hSj
       by_cases heq : idj = fid
       ·have Hsel : Hid (P1 ++ ((ids.zip l).take (j + 1)).filter (fun p => decide (p.1 = fid)) = P1 ++ (Sj ++ [(idj, ValueD.mk xk xn xs xi xl)])) := by show _ = _; rw [hsel, if_pos heq]
        have heb : (idj == fid) = true := by simpa using heq
        clear heq hsel
        go_wp2_with fail
        clear c0 q0
        generalize hW9 : wr = W9 at *
        have HSK2 : Hid (∀ W', Box W' (w.heap.size + 1 + 1 + 1 + 1) 28 [.int .i64 2, .int .i64 0, .string ⟨#[]⟩, vi, vl] → Box W' X 56 [.int .i64 fid, .string fname, .string ftype, .int .i64 fkind, .int .i64 frule] → Box W' (w.heap.size + 1 + 1) 28 [.int .i64 kind, .int .i64 nn, .string s, .slice (some ⟨ig, io, none⟩) ids.length d1, .slice (some ⟨lg, lo, none⟩) l.length d2] → Box W' w.heap.size 24 [.slice A b.length cap] → Below w.heap.size w W' → (fun W' => (W'.cell? ⟨(w.heap.size + 1 + 1 + 1 + 1), 3, none⟩ = some vi ∧ W'.cell? ⟨(w.heap.size + 1 + 1 + 1 + 1), 4, none⟩ = some vl) ∧ W'.cell? ⟨w.heap.size + 1 + 1, 4, none⟩ = some (.slice (some ⟨lg, lo, none⟩) l.length d2) ∧ (W'.cell? ⟨lg, lo + j * 5, none⟩ = some (.int .i64 xk) ∧ W'.cell? ⟨lg, lo + j * 5 + 1, none⟩ = some (.int .i64 xn) ∧ W'.cell? ⟨lg, lo + j * 5 + 2, none⟩ = some (.string xs) ∧ W'.cell? ⟨lg, lo + j * 5 + 3, none⟩ = some (.slice E1 xi.length f1) ∧ W'.cell? ⟨lg, lo + j * 5 + 4, none⟩ = some (.slice E2 xl.length f2))) W') :=
         fun W' h1 _ h3 _ h5 => ⟨⟨h1.cell 3, h1.cell 4⟩, h3.cell 4, by
          have hc := HLs.out.keep (S := Old w) (Keep.of_below h5) hlgw
          exact ⟨hc.at_ 0 rfl, hc.at_ 1 rfl, hc.at_ 2 rfl, hc.at_ 3 rfl, hc.at_ 4 rfl⟩⟩
        have HSK := HSK2
        replace hR := hR.drew
        replace zG := zG.drew
        replace zR := zR.drew
        replace zV := zV.drew
        replace zB := zB.drew
        replace zX := zX.drew
        replace hw := below_drew hw
        have hS := trivial
        replace hS := HSK.out _ zG zX zV zB hw
        refine late_start (fun W' => (W'.cell? ⟨(w.heap.size + 1 + 1 + 1 + 1), 3, none⟩ = some vi ∧ W'.cell? ⟨(w.heap.size + 1 + 1 + 1 + 1), 4, none⟩ = some vl) ∧ W'.cell? ⟨w.heap.size + 1 + 1, 4, none⟩ = some (.slice (some ⟨lg, lo, none⟩) l.length d2) ∧ (W'.cell? ⟨lg, lo + j * 5, none⟩ = some (.int .i64 xk) ∧ W'.cell? ⟨lg, lo + j * 5 + 1, none⟩ = some (.int .i64 xn) ∧ W'.cell? ⟨lg, lo + j * 5 + 2, none⟩ = some (.string xs) ∧ W'.cell? ⟨lg, lo + j * 5 + 3, none⟩ = some (.slice E1 xi.length f1) ∧ W'.cell? ⟨lg, lo + j * 5 + 4, none⟩ = some (.slice E2 xl.length f2))) 15 (by kernel_rfl) ?_
        refine tkL 0 hS ?_
        try simp only [pu]
        refine tkL 1 hS ?_
        try simp only [pu]
        refine tkL 2 hS ?_
        try simp only [pu]
        refine tkL 5 hS ?_
        try simp only [pu]
        refine tkL 6 hS ?_
        try simp only [pu]
        refine tkL 7 hS ?_
        try simp only [pu]
        refine tkL 8 hS ?_
        try simp only [pu]
        refine tkL 9 hS ?_
        try simp only [pu]
        refine tkL 10 hS ?_
        try simp only [pu]
        refine tkL 11 hS ?_
        try simp only [pu]
        refine late_two (i := 3) (j := 12) rfl rfl (by kernel_rfl) (fun K hK => ?_) (fun K hK => ?_)
        ·go_simp
         have hZ1 := Box.newB hw 3 [.int .i64 idj]
         try simp only [World.size_alloc] at hZ1
         replace hR := hR.alloc (.cells #[.int .i64 idj] 3)
         replace zG := zG.alloc (.cells #[.int .i64 idj] 3)
         replace zR := zR.alloc (.cells #[.int .i64 idj] 3)
         replace zV := zV.alloc (.cells #[.int .i64 idj] 3)
         replace zB := zB.alloc (.cells #[.int .i64 idj] 3)
         replace zX := zX.alloc (.cells #[.int .i64 idj] 3)
         (first | (replace hZ2 := hZ2.alloc (.cells #[.int .i64 idj] 3)) | skip)
         replace hw := hw.alloc hw.size (.cells #[.int .i64 idj] 3)
         replace hS := HSK.out _ zG zX zV zB hw
         refine hK.out _ _ (fun _ => hS) ?_
         clear hK K
         try simp only [pu]
         refine late_two (i := 4) (j := 12) rfl rfl (by kernel_rfl) (fun K hK => ?_) (fun K hK => ?_)
         ·refine step_append _ rfl (.tmp 59) (.tmp 61) rfl sl_ints RInt.fair rfl rfl hR.ids (Src.one (es := [.int .i64 idj]) (y := idj) rfl (Ones.of_all rfl) rfl hZ1.lies) (NoT.lt _) (by go_light; simp; omega) hR.hb ?_
          intro v1 wk1 ho1 hg1 hv1
          have hR' := hR.push_id ho1 hg1 hv1
          replace zG := zG.grownR hR.ids (by first | exact .inl (by go_light; omega) | exact .inr (by decide)) hg1
          replace zR := zR.grownR hR.ids (by first | exact .inl (by go_light; omega) | exact .inr (by decide)) hg1
          replace zV := zV.grownR hR.ids (by first | exact .inl (by go_light; omega) | exact .inr (by decide)) hg1
          replace zB := zB.grownR hR.ids (by first | exact .inl (by go_light; omega) | exact .inr (by decide)) hg1
          replace zX := zX.grownR hR.ids (by first | exact .inl (by go_light; omega) | exact .inr (by decide)) hg1
          (first | (replace hZ2 := hZ2.grownR hR.ids (.inr (by decide)) hg1) | skip)
          replace hw := below_grown hw hg1 hw.size (fun g' h => by go_light; have := (hR.ilt h).1; omega)
          replace hR := hR'
          clear hR'
          replace hS := HSK.out _ zG zX zV zB hw
          refine hK.out _ _ (fun _ => hS) ?_
          clear hK K
          try simp only [pu]
          refine tkL 14 hS ?_
          try simp only [pu]
          refine late_one (i := 12) rfl (by kernel_rfl) (fun K hK => ?_)
          go_simp
          have hZ2 := Box.newB hw 28 [.int .i64 xk, .int .i64 xn, .string xs, .slice E1 xi.length f1, .slice E2 xl.length f2]
          try simp only [World.size_alloc] at hZ2
          replace hR := hR.alloc (.cells [.int .i64 xk, .int .i64 xn, .string xs, .slice E1 xi.length f1, .slice E2 xl.length f2].toArray 28)
          replace zG := zG.alloc (.cells [.int .i64 xk, .int .i64 xn, .string xs, .slice E1 xi.length f1, .slice E2 xl.length f2].toArray 28)
          replace zR := zR.alloc (.cells [.int .i64 xk, .int .i64 xn, .string xs, .slice E1 xi.length f1, .slice E2 xl.length f2].toArray 28)
          replace zV := zV.alloc (.cells [.int .i64 xk, .int .i64 xn, .string xs, .slice E1 xi.length f1, .slice E2 xl.length f2].toArray 28)
          replace zB := zB.alloc (.cells [.int .i64 xk, .int .i64 xn, .string xs, .slice E1 xi.length f1, .slice E2 xl.length f2].toArray 28)
          replace zX := zX.alloc (.cells [.int .i64 xk, .int .i64 xn, .string xs, .slice E1 xi.length f1, .slice E2 xl.length f2].toArray 28)
          (first | (replace hZ1 := hZ1.alloc (.cells [.int .i64 xk, .int .i64 xn, .string xs, .slice E1 xi.length f1, .slice E2 xl.length f2].toArray 28)) | skip)
          replace hw := hw.alloc hw.size (.cells [.int .i64 xk, .int .i64 xn, .string xs, .slice E1 xi.length f1, .slice E2 xl.length f2].toArray 28)
          replace hS := HSK.out _ zG zX zV zB hw
          refine hK.out _ _ (fun _ => hS) ?_
          clear hK K
          try simp only [pu]
          refine late_one (i := 13) rfl (by kernel_rfl) (fun K hK => ?_)
          refine step_append _ rfl (.tmp 64) (.tmp 70) rfl sl_vals RVal.fair rfl rfl hR.lrow (Src.one (es := [.int .i64 xk, .int .i64 xn, .string xs, .slice E1 xi.length f1, .slice E2 xl.length f2]) (y := ValueD.mk xk xn xs xi xl) rfl (Ones.of_all rfl) (hR.apart (RVal.fair.keep HXr.out (Keep.of_below hw)) (fun y hy _ => ⟨.inr ⟨by go_light; have := hy.2; omega, by go_light; have := hy.2; omega⟩, .inr hy⟩)) hZ2.lies) (fun _ h => h.2) (by go_light; simp; omega) hR.hb ?_
          intro v5 w5 ho5 hg5 hv5
          have hR' := hR.push_l ho5 hg5 hv5
          replace zG := zG.grownR hR.l (by first | exact .inl (by go_light; omega) | exact .inr (by decide)) hg5
          replace zR := zR.grownR hR.l (by first | exact .inl (by go_light; omega) | exact .inr (by decide)) hg5
          replace zV := zV.grownR hR.l (by first | exact .inl (by go_light; omega) | exact .inr (by decide)) hg5
          replace zB := zB.grownR hR.l (by first | exact .inl (by go_light; omega) | exact .inr (by decide)) hg5
          replace zX := zX.grownR hR.l (by first | exact .inl (by go_light; omega) | exact .inr (by decide)) hg5
          replace hw := below_grown hw hg5 hw.size (fun g' h => by go_light; have := (hR.llt h).1; omega)
          replace hR := hR'
          clear hR'
          replace hS := HSK.out _ zG zX zV zB hw
          have fz3 := zG.frozen 3
          have cz3 := zG.cell 3
          have fz4 := zG.frozen 4
          have cz4 := zG.cell 4
          have lz := zG.lt
          simp only [List.getElem?_cons_zero, List.getElem?_cons_succ] at cz3 cz4
          obtain ⟨R1, p1, rfl, _⟩ := hR.ids.form
          obtain ⟨R2, p2, rfl, _⟩ := hR.l.form
          refine hK.out _ _ (fun _ => hS) ?_
          clear hK K
          try simp only [pu]
          refine late_one (i := 15) rfl (by kernel_rfl) (fun K hK => ?_)
          go_simp
          refine hK.out _ _ (fun h => absurd h (by decide)) ?_
          clear hK K
          try simp only [pu]
          refine late_one (i := 16) rfl (by kernel_rfl) (fun K hK => ?_)
          go_simp
          refine hK.out _ _ (fun h => absurd h (by decide)) ?_
          clear hK K
          try simp only [pu]
          refine late_one (i := 17) rfl (by kernel_rfl) (fun K hK => ?_)
          go_simp
          refine hK.out _ _ (fun h => absurd h (by decide)) ?_
          clear hK K
          try simp only [pu]
          refine late_done (by kernel_rfl) ?_ _
          simp only [List.length_append, List.length_map, List.length_cons, List.length_nil, Nat.zero_add] at hR
          replace hR := (hR.setCell 3 (.slice R1 (P1.length + Sj.length + 1) p1)).setCell 4 (.slice R2 (P1.length + Sj.length + 1) p2)
          replace zG := (zG.set_ 3 (.slice R1 (P1.length + Sj.length + 1) p1)).set_ 4 (.slice R2 (P1.length + Sj.length + 1) p2)
          simp only [List.set_cons_zero, List.set_cons_succ, List.length_append, List.length_map, List.length_cons, List.length_nil, Nat.zero_add] at zG
          replace zR := zR.far (p := ⟨(w.heap.size + 1 + 1 + 1 + 1), 3, none⟩) (by first | (simp; done) | (simp; omega)) (.slice R1 (P1.length + Sj.length + 1) p1)
          replace zV := zV.far (p := ⟨(w.heap.size + 1 + 1 + 1 + 1), 3, none⟩) (by first | (simp; done) | (simp; omega)) (.slice R1 (P1.length + Sj.length + 1) p1)
          replace zB := zB.far (p := ⟨(w.heap.size + 1 + 1 + 1 + 1), 3, none⟩) (by first | (simp; done) | (simp; omega)) (.slice R1 (P1.length + Sj.length + 1) p1)
          replace zX := zX.far (p := ⟨(w.heap.size + 1 + 1 + 1 + 1), 3, none⟩) (by first | (simp; done) | (simp; omega)) (.slice R1 (P1.length + Sj.length + 1) p1)
          replace zR := zR.far (p := ⟨(w.heap.size + 1 + 1 + 1 + 1), 4, none⟩) (by first | (simp; done) | (simp; omega)) (.slice R2 (P1.length + Sj.length + 1) p2)
          replace zV := zV.far (p := ⟨(w.heap.size + 1 + 1 + 1 + 1), 4, none⟩) (by first | (simp; done) | (simp; omega)) (.slice R2 (P1.length + Sj.length + 1) p2)
          replace zB := zB.far (p := ⟨(w.heap.size + 1 + 1 + 1 + 1), 4, none⟩) (by first | (simp; done) | (simp; omega)) (.slice R2 (P1.length + Sj.length + 1) p2)
          replace zX := zX.far (p := ⟨(w.heap.size + 1 + 1 + 1 + 1), 4, none⟩) (by first | (simp; done) | (simp; omega)) (.slice R2 (P1.length + Sj.length + 1) p2)
          replace hw := (hw.setCell (p := ⟨(w.heap.size + 1 + 1 + 1 + 1), 3, none⟩) (by first | (simp; done) | (simp; omega)) (.slice R1 (P1.length + Sj.length + 1) p1)).setCell (p := ⟨(w.heap.size + 1 + 1 + 1 + 1), 4, none⟩) (by first | (simp; done) | (simp; omega)) (.slice R2 (P1.length + Sj.length + 1) p2)
          clear hS fz3 cz3 fz4 cz4 lz hg5 hv5 ho5 hg1 hv1 ho1
          go_wp2_with fail
          go_roundw
          case rel => exact ⟨j + 1, _, _, by go_num, by go_light; omega, by rw [Hsel.out]; simpa [Nat.add_assoc] using hR, zG, zR, zV, zB, zX, hw⟩
          case measure => go_light; simp [intOf]; omega
         ·go_simp
          have hZ2 := Box.newB hw 28 [.int .i64 xk, .int .i64 xn, .string xs, .slice E1 xi.length f1, .slice E2 xl.length f2]
          try simp only [World.size_alloc] at hZ2
          replace hR := hR.alloc (.cells [.int .i64 xk, .int .i64 xn, .string xs, .slice E1 xi.length f1, .slice E2 xl.length f2].toArray 28)
          replace zG := zG.alloc (.cells [.int .i64 xk, .int .i64 xn, .string xs, .slice E1 xi.length f1, .slice E2 xl.length f2].toArray 28)
          replace zR := zR.alloc (.cells [.int .i64 xk, .int .i64 xn, .string xs, .slice E1 xi.length f1, .slice E2 xl.length f2].toArray 28)
          replace zV := zV.alloc (.cells [.int .i64 xk, .int .i64 xn, .string xs, .slice E1 xi.length f1, .slice E2 xl.length f2].toArray 28)
          replace zB := zB.alloc (.cells [.int .i64 xk, .int .i64 xn, .string xs, .slice E1 xi.length f1, .slice E2 xl.length f2].toArray 28)
          replace zX := zX.alloc (.cells [.int .i64 xk, .int .i64 xn, .string xs, .slice E1 xi.length f1, .slice E2 xl.length f2].toArray 28)
          (first | (replace hZ1 := hZ1.alloc (.cells [.int .i64 xk, .int .i64 xn, .string xs, .slice E1 xi.length f1, .slice E2 xl.length f2].toArray 28)) | skip)
          replace hw := hw.alloc hw.size (.cells [.int .i64 xk, .int .i64 xn, .string xs, .slice E1 xi.length f1, .slice E2 xl.length f2].toArray 28)
          replace hS := HSK.out _ zG zX zV zB hw
          refine hK.out _ _ (fun _ => hS) ?_
          clear hK K
          try simp only [pu]
          refine late_one (i := 4) rfl (by kernel_rfl) (fun K hK => ?_)
          refine step_append _ rfl (.tmp 59) (.tmp 61) rfl sl_ints RInt.fair rfl rfl hR.ids (Src.one (es := [.int .i64 idj]) (y := idj) rfl (Ones.of_all rfl) rfl hZ1.lies) (NoT.lt _) (by go_light; simp; omega) hR.hb ?_
          intro v1 wk1 ho1 hg1 hv1
          have hR' := hR.push_id ho1 hg1 hv1
          replace zG := zG.grownR hR.ids (by first | exact .inl (by go_light; omega) | exact .inr (by decide)) hg1
          replace zR := zR.grownR hR.ids (by first | exact .inl (by go_light; omega) | exact .inr (by decide)) hg1
          replace zV := zV.grownR hR.ids (by first | exact .inl (by go_light; omega) | exact .inr (by decide)) hg1
          replace zB := zB.grownR hR.ids (by first | exact .inl (by go_light; omega) | exact .inr (by decide)) hg1
          replace zX := zX.grownR hR.ids (by first | exact .inl (by go_light; omega) | exact .inr (by decide)) hg1
          (first | (replace hZ2 := hZ2.grownR hR.ids (.inr (by decide)) hg1) | skip)
          replace hw := below_grown hw hg1 hw.size (fun g' h => by go_light; have := (hR.ilt h).1; omega)
          replace hR := hR'
          clear hR'
          replace hS := HSK.out _ zG zX zV zB hw
          refine hK.out _ _ (fun _ => hS) ?_
          clear hK K
          try simp only [pu]
          refine tkL 14 hS ?_
          try simp only [pu]
          refine late_one (i := 13) rfl (by kernel_rfl) (fun K hK => ?_)
          refine step_append _ rfl (.tmp 64) (.tmp 70) rfl sl_vals RVal.fair rfl rfl hR.lrow (Src.one (es := [.int .i64 xk, .int .i64 xn, .string xs, .slice E1 xi.length f1, .slice E2 xl.length f2]) (y := ValueD.mk xk xn xs xi xl) rfl (Ones.of_all rfl) (hR.apart (RVal.fair.keep HXr.out (Keep.of_below hw)) (fun y hy _ => ⟨.inr ⟨by go_light; have := hy.2; omega, by go_light; have := hy.2; omega⟩, .inr hy⟩)) hZ2.lies) (fun _ h => h.2) (by go_light; simp; omega) hR.hb ?_
          intro v5 w5 ho5 hg5 hv5
          have hR' := hR.push_l ho5 hg5 hv5
          replace zG := zG.grownR hR.l (by first | exact .inl (by go_light; omega) | exact .inr (by decide)) hg5
          replace zR := zR.grownR hR.l (by first | exact .inl (by go_light; omega) | exact .inr (by decide)) hg5
          replace zV := zV.grownR hR.l (by first | exact .inl (by go_light; omega) | exact .inr (by decide)) hg5
          replace zB := zB.grownR hR.l (by first | exact .inl (by go_light; omega) | exact .inr (by decide)) hg5
          replace zX := zX.grownR hR.l (by first | exact .inl (by go_light; omega) | exact .inr (by decide)) hg5
          replace hw := below_grown hw hg5 hw.size (fun g' h => by go_light; have := (hR.llt h).1; omega)
          replace hR := hR'
          clear hR'
          replace hS := HSK.out _ zG zX zV zB hw
          have fz3 := zG.frozen 3
          have cz3 := zG.cell 3
          have fz4 := zG.frozen 4
          have cz4 := zG.cell 4
          have lz := zG.lt
          simp only [List.getElem?_cons_zero, List.getElem?_cons_succ] at cz3 cz4
          obtain ⟨R1, p1, rfl, _⟩ := hR.ids.form
          obtain ⟨R2, p2, rfl, _⟩ := hR.l.form
          refine hK.out _ _ (fun _ => hS) ?_
          clear hK K
          try simp only [pu]
          refine late_one (i := 15) rfl (by kernel_rfl) (fun K hK => ?_)
          go_simp
          refine hK.out _ _ (fun h => absurd h (by decide)) ?_
          clear hK K
          try simp only [pu]
          refine late_one (i := 16) rfl (by kernel_rfl) (fun K hK => ?_)
          go_simp
          refine hK.out _ _ (fun h => absurd h (by decide)) ?_
          clear hK K
          try simp only [pu]
          refine late_one (i := 17) rfl (by kernel_rfl) (fun K hK => ?_)
          go_simp
          refine hK.out _ _ (fun h => absurd h (by decide)) ?_
          clear hK K
          try simp only [pu]
          refine late_done (by kernel_rfl) ?_ _
          simp only [List.length_append, List.length_map, List.length_cons, List.length_nil, Nat.zero_add] at hR
          replace hR := (hR.setCell 3 (.slice R1 (P1.length + Sj.length + 1) p1)).setCell 4 (.slice R2 (P1.length + Sj.length + 1) p2)
          replace zG := (zG.set_ 3 (.slice R1 (P1.length + Sj.length + 1) p1)).set_ 4 (.slice R2 (P1.length + Sj.length + 1) p2)
          simp only [List.set_cons_zero, List.set_cons_succ, List.length_append, List.length_map, List.length_cons, List.length_nil, Nat.zero_add] at zG
          replace zR := zR.far (p := ⟨(w.heap.size + 1 + 1 + 1 + 1), 3, none⟩) (by first | (simp; done) | (simp; omega)) (.slice R1 (P1.length + Sj.length + 1) p1)
          replace zV := zV.far (p := ⟨(w.heap.size + 1 + 1 + 1 + 1), 3, none⟩) (by first | (simp; done) | (simp; omega)) (.slice R1 (P1.length + Sj.length + 1) p1)
          replace zB := zB.far (p := ⟨(w.heap.size + 1 + 1 + 1 + 1), 3, none⟩) (by first | (simp; done) | (simp; omega)) (.slice R1 (P1.length + Sj.length + 1) p1)
          replace zX := zX.far (p := ⟨(w.heap.size + 1 + 1 + 1 + 1), 3, none⟩) (by first | (simp; done) | (simp; omega)) (.slice R1 (P1.length + Sj.length + 1) p1)
          replace zR := zR.far (p := ⟨(w.heap.size + 1 + 1 + 1 + 1), 4, none⟩) (by first | (simp; done) | (simp; omega)) (.slice R2 (P1.length + Sj.length + 1) p2)
          replace zV := zV.far (p := ⟨(w.heap.size + 1 + 1 + 1 + 1), 4, none⟩) (by first | (simp; done) | (simp; omega)) (.slice R2 (P1.length + Sj.length + 1) p2)
          replace zB := zB.far (p := ⟨(w.heap.size + 1 + 1 + 1 + 1), 4, none⟩) (by first | (simp; done) | (simp; omega)) (.slice R2 (P1.length + Sj.length + 1) p2)
          replace zX := zX.far (p := ⟨(w.heap.size + 1 + 1 + 1 + 1), 4, none⟩) (by first | (simp; done) | (simp; omega)) (.slice R2 (P1.length + Sj.length + 1) p2)
          replace hw := (hw.setCell (p := ⟨(w.heap.size + 1 + 1 + 1 + 1), 3, none⟩) (by first | (simp; done) | (simp; omega)) (.slice R1 (P1.length + Sj.length + 1) p1)).setCell (p := ⟨(w.heap.size + 1 + 1 + 1 + 1), 4, none⟩) (by first | (simp; done) | (simp; omega)) (.slice R2 (P1.length + Sj.length + 1) p2)
          clear hS fz3 cz3 fz4 cz4 lz hg5 hv5 ho5 hg1 hv1 ho1
          go_wp2_with fail
          go_roundw
          case rel => exact ⟨j + 1, _, _, by go_num, by go_light; omega, by rw [Hsel.out]; simpa [Nat.add_assoc] using hR, zG, zR, zV, zB, zX, hw⟩
          case measure => go_light; simp [intOf]; omega
        ·go_simp
         have hZ2 := Box.newB hw 28 [.int .i64 xk, .int .i64 xn, .string xs, .slice E1 xi.length f1, .slice E2 xl.length f2]
         try simp only [World.size_alloc] at hZ2
         replace hR := hR.alloc (.cells [.int .i64 xk, .int .i64 xn, .string xs, .slice E1 xi.length f1, .slice E2 xl.length f2].toArray 28)
         replace zG := zG.alloc (.cells [.int .i64 xk, .int .i64 xn, .string xs, .slice E1 xi.length f1, .slice E2 xl.length f2].toArray 28)
         replace zR := zR.alloc (.cells [.int .i64 xk, .int .i64 xn, .string xs, .slice E1 xi.length f1, .slice E2 xl.length f2].toArray 28)
         replace zV := zV.alloc (.cells [.int .i64 xk, .int .i64 xn, .string xs, .slice E1 xi.length f1, .slice E2 xl.length f2].toArray 28)
         replace zB := zB.alloc (.cells [.int .i64 xk, .int .i64 xn, .string xs, .slice E1 xi.length f1, .slice E2 xl.length f2].toArray 28)
         replace zX := zX.alloc (.cells [.int .i64 xk, .int .i64 xn, .string xs, .slice E1 xi.length f1, .slice E2 xl.length f2].toArray 28)
         (first | (replace hZ1 := hZ1.alloc (.cells [.int .i64 xk, .int .i64 xn, .string xs, .slice E1 xi.length f1, .slice E2 xl.length f2].toArray 28)) | skip)
         replace hw := hw.alloc hw.size (.cells [.int .i64 xk, .int .i64 xn, .string xs, .slice E1 xi.length f1, .slice E2 xl.length f2].toArray 28)
         replace hS := HSK.out _ zG zX zV zB hw
         refine hK.out _ _ (fun _ => hS) ?_
         clear hK K
         try simp only [pu]
         refine late_one (i := 3) rfl (by kernel_rfl) (fun K hK => ?_)
         go_simp
         have hZ1 := Box.newB hw 3 [.int .i64 idj]
         try simp only [World.size_alloc] at hZ1
         replace hR := hR.alloc (.cells #[.int .i64 idj] 3)
         replace zG := zG.alloc (.cells #[.int .i64 idj] 3)
         replace zR := zR.alloc (.cells #[.int .i64 idj] 3)
         replace zV := zV.alloc (.cells #[.int .i64 idj] 3)
         replace zB := zB.alloc (.cells #[.int .i64 idj] 3)
         replace zX := zX.alloc (.cells #[.int .i64 idj] 3)
         (first | (replace hZ2 := hZ2.alloc (.cells #[.int .i64 idj] 3)) | skip)
         replace hw := hw.alloc hw.size (.cells #[.int .i64 idj] 3)
         replace hS := HSK.out _ zG zX zV zB hw
         refine hK.out _ _ (fun _ => hS) ?_
         clear hK K
         try simp only [pu]
         refine late_one (i := 4) rfl (by kernel_rfl) (fun K hK => ?_)
         refine step_append _ rfl (.tmp 59) (.tmp 61) rfl sl_ints RInt.fair rfl rfl hR.ids (Src.one (es := [.int .i64 idj]) (y := idj) rfl (Ones.of_all rfl) rfl hZ1.lies) (NoT.lt _) (by go_light; simp; omega) hR.hb ?_
         intro v1 wk1 ho1 hg1 hv1
         have hR' := hR.push_id ho1 hg1 hv1
         replace zG := zG.grownR hR.ids (by first | exact .inl (by go_light; omega) | exact .inr (by decide)) hg1
         replace zR := zR.grownR hR.ids (by first | exact .inl (by go_light; omega) | exact .inr (by decide)) hg1
         replace zV := zV.grownR hR.ids (by first | exact .inl (by go_light; omega) | exact .inr (by decide)) hg1
         replace zB := zB.grownR hR.ids (by first | exact .inl (by go_light; omega) | exact .inr (by decide)) hg1
         replace zX := zX.grownR hR.ids (by first | exact .inl (by go_light; omega) | exact .inr (by decide)) hg1
         (first | (replace hZ2 := hZ2.grownR hR.ids (.inr (by decide)) hg1) | skip)
         replace hw := below_grown hw hg1 hw.size (fun g' h => by go_light; have := (hR.ilt h).1; omega)
         replace hR := hR'
         clear hR'
         replace hS := HSK.out _ zG zX zV zB hw
         refine hK.out _ _ (fun _ => hS) ?_
         clear hK K
         try simp only [pu]
         refine tkL 14 hS ?_
         try simp only [pu]
         refine late_one (i := 13) rfl (by kernel_rfl) (fun K hK => ?_)
         refine step_append _ rfl (.tmp 64) (.tmp 70) rfl sl_vals RVal.fair rfl rfl hR.lrow (Src.one (es := [.int .i64 xk, .int .i64 xn, .string xs, .slice E1 xi.length f1, .slice E2 xl.length f2]) (y := ValueD.mk xk xn xs xi xl) rfl (Ones.of_all rfl) (hR.apart (RVal.fair.keep HXr.out (Keep.of_below hw)) (fun y hy _ => ⟨.inr ⟨by go_light; have := hy.2; omega, by go_light; have := hy.2; omega⟩, .inr hy⟩)) hZ2.lies) (fun _ h => h.2) (by go_light; simp; omega) hR.hb ?_
         intro v5 w5 ho5 hg5 hv5
         have hR' := hR.push_l ho5 hg5 hv5
         replace zG := zG.grownR hR.l (by first | exact .inl (by go_light; omega) | exact .inr (by decide)) hg5
         replace zR := zR.grownR hR.l (by first | exact .inl (by go_light; omega) | exact .inr (by decide)) hg5
         replace zV := zV.grownR hR.l (by first | exact .inl (by go_light; omega) | exact .inr (by decide)) hg5
         replace zB := zB.grownR hR.l (by first | exact .inl (by go_light; omega) | exact .inr (by decide)) hg5
         replace zX := zX.grownR hR.l (by first | exact .inl (by go_light; omega) | exact .inr (by decide)) hg5
         replace hw := below_grown hw hg5 hw.size (fun g' h => by go_light; have := (hR.llt h).1; omega)
         replace hR := hR'
         clear hR'
         replace hS := HSK.out _ zG zX zV zB hw
         have fz3 := zG.frozen 3
         have cz3 := zG.cell 3
         have fz4 := zG.frozen 4
         have cz4 := zG.cell 4
         have lz := zG.lt
         simp only [List.getElem?_cons_zero, List.getElem?_cons_succ] at cz3 cz4
         obtain ⟨R1, p1, rfl, _⟩ := hR.ids.form
         obtain ⟨R2, p2, rfl, _⟩ := hR.l.form
         refine hK.out _ _ (fun _ => hS) ?_
         clear hK K
         try simp only [pu]
         refine late_one (i := 15) rfl (by kernel_rfl) (fun K hK => ?_)
         go_simp
         refine hK.out _ _ (fun h => absurd h (by decide)) ?_
         clear hK K
         try simp only [pu]
         refine late_one (i := 16) rfl (by kernel_rfl) (fun K hK => ?_)
         go_simp
         refine hK.out _ _ (fun h => absurd h (by decide)) ?_
         clear hK K
         try simp only [pu]
         refine late_one (i := 17) rfl (by kernel_rfl) (fun K hK => ?_)
         go_simp
         refine hK.out _ _ (fun h => absurd h (by decide)) ?_
         clear hK K
         try simp only [pu]
         refine late_done (by kernel_rfl) ?_ _
         simp only [List.length_append, List.length_map, List.length_cons, List.length_nil, Nat.zero_add] at hR
         replace hR := (hR.setCell 3 (.slice R1 (P1.length + Sj.length + 1) p1)).setCell 4 (.slice R2 (P1.length + Sj.length + 1) p2)
         replace zG := (zG.set_ 3 (.slice R1 (P1.length + Sj.length + 1) p1)).set_ 4 (.slice R2 (P1.length + Sj.length + 1) p2)
         simp only [List.set_cons_zero, List.set_cons_succ, List.length_append, List.length_map, List.length_cons, List.length_nil, Nat.zero_add] at zG
         replace zR := zR.far (p := ⟨(w.heap.size + 1 + 1 + 1 + 1), 3, none⟩) (by first | (simp; done) | (simp; omega)) (.slice R1 (P1.length + Sj.length + 1) p1)
         replace zV := zV.far (p := ⟨(w.heap.size + 1 + 1 + 1 + 1), 3, none⟩) (by first | (simp; done) | (simp; omega)) (.slice R1 (P1.length + Sj.length + 1) p1)
         replace zB := zB.far (p := ⟨(w.heap.size + 1 + 1 + 1 + 1), 3, none⟩) (by first | (simp; done) | (simp; omega)) (.slice R1 (P1.length + Sj.length + 1) p1)
         replace zX := zX.far (p := ⟨(w.heap.size + 1 + 1 + 1 + 1), 3, none⟩) (by first | (simp; done) | (simp; omega)) (.slice R1 (P1.length + Sj.length + 1) p1)
         replace zR := zR.far (p := ⟨(w.heap.size + 1 + 1 + 1 + 1), 4, none⟩) (by first | (simp; done) | (simp; omega)) (.slice R2 (P1.length + Sj.length + 1) p2)
         replace zV := zV.far (p := ⟨(w.heap.size + 1 + 1 + 1 + 1), 4, none⟩) (by first | (simp; done) | (simp; omega)) (.slice R2 (P1.length + Sj.length + 1) p2)
         replace zB := zB.far (p := ⟨(w.heap.size + 1 + 1 + 1 + 1), 4, none⟩) (by first | (simp; done) | (simp; omega)) (.slice R2 (P1.length + Sj.length + 1) p2)
         replace zX := zX.far (p := ⟨(w.heap.size + 1 + 1 + 1 + 1), 4, none⟩) (by first | (simp; done) | (simp; omega)) (.slice R2 (P1.length + Sj.length + 1) p2)
         replace hw := (hw.setCell (p := ⟨(w.heap.size + 1 + 1 + 1 + 1), 3, none⟩) (by first | (simp; done) | (simp; omega)) (.slice R1 (P1.length + Sj.length + 1) p1)).setCell (p := ⟨(w.heap.size + 1 + 1 + 1 + 1), 4, none⟩) (by first | (simp; done) | (simp; omega)) (.slice R2 (P1.length + Sj.length + 1) p2)
         clear hS fz3 cz3 fz4 cz4 lz hg5 hv5 ho5 hg1 hv1 ho1
         go_wp2_with fail
         go_roundw
         case rel => exact ⟨j + 1, _, _, by go_num, by go_light; omega, by rw [Hsel.out]; simpa [Nat.add_assoc] using hR, zG, zR, zV, zB, zX, hw⟩
         case measure => go_light; simp [intOf]; omega
       ·have Hsel : Hid (P1 ++ ((ids.zip l).take (j + 1)).filter (fun p => decide (p.1 = fid)) = P1 ++ Sj) := by show _ = _; rw [hsel, if_neg heq, List.append_nil]
        have heb : (idj == fid) = false := by simpa using heq
        clear heq hsel
        go_wp2_with fail
        go_roundw
        case rel => exact ⟨j + 1, _, _, by go_num, by go_light; omega, by rw [Hsel.out]; exact hR, zG, zR, zV, zB, zX, hw⟩
        case measure => go_light; simp [intOf]; omega
      ·have hfull : (ids.zip l).take j = ids.zip l := List.take_of_length_le (by rw [List.length_zip]; omega)
       rw [hfull, ← Hsucc.out] at hR
       go_wp2_with fail
       go_roundw
       case rel => exact ⟨n + 1, _, _, by go_num, by go_light; omega, hR, zG, zR, zV, zB, hw⟩
       case measure => go_light; simp [intOf]; omega
    ·have hrb : (frule == 1) = false := by simpa using hr1
     clear hsucc3 hsucc2 Hl2 hput hr1 hP1
     go_wp2_with fail
     clear q0 q1 q2 q3 q4 v3 hlv
     generalize hWW : wr.alloc (.cells #[.int .i64 fid, .string fname, .string ftype, .int .i64 fkind, .int .i64 frule] 56) = W0 at *
     have hXl : wr.heap.size < W0.heap.size := zX.lt
     generalize hXX : wr.heap.size = X at *
     clear hWW hXX
     have v3 := zV.cell 3
     have hlv := zV.lt
     simp only [List.getElem?_cons_zero, List.getElem?_cons_succ] at v3
     go_wp2_with fail
     clear v3 hlv
     go_loopw [49] (fun i wi => ∃ (j : Nat) (vi vl : Value), i = .int .i64 j ∧ j ≤ ids.length ∧ Rows2 (fun y => w.heap.size + 1 + 1 + 1 + 1 + 1 ≤ y ∨ (S' y ∧ y < w.heap.size)) (w.heap.size + 1 + 1 + 1 + 1 + 1) wi (w.heap.size + 1 + 1 + 1 + 1) vi vl ((P1 ++ ((ids.zip l).take j).filter (fun p => decide (p.1 = fid))).map (·.1)) ((P1 ++ ((ids.zip l).take j).filter (fun p => decide (p.1 = fid))).map (·.2)) ∧
      Box wi (w.heap.size + 1 + 1 + 1 + 1) 28 [.int .i64 2, .int .i64 0, .string ⟨#[]⟩, vi, vl] ∧ Box wi (w.heap.size + 1 + 1 + 1) 28 [.int .i64 0, .int .i64 0, .string ⟨#[]⟩, .slice none 0 0, .slice none 0 0] ∧ Box wi (w.heap.size + 1 + 1) 28 [.int .i64 kind, .int .i64 nn, .string s, .slice I1 ids.length d1, .slice I2 l.length d2] ∧ Box wi w.heap.size 24 [.slice A b.length cap] ∧ Box wi X 56 [.int .i64 fid, .string fname, .string ftype, .int .i64 fkind, .int .i64 frule] ∧ Below w.heap.size w wi) (fun i _ => ids.length - (intOf i).toNat)
     case atStart => exact ⟨0, _, _, rfl, by go_light; omega, by simpa using hR, zG, zR, zV, zB, zX, hw⟩
     case round =>
      clear hR zG zR zV zB zX hw
      obtain ⟨j, vi, vl, rfl, hj, hR, zG, zR, zV, zB, zX, hw⟩ := hrel
      by_cases hjl : j < ids.length
      ·have hjk : j < l.length := by go_light; have := Hll.out; omega
       obtain ⟨ig, io, rfl, hSi, hgi⟩ := HI.out.base (by go_light; omega)
       obtain ⟨lg, lo, rfl, hSl, hlgw⟩ := HL.out.base (by go_light; omega)
       have hci := (HI.out.flat (enc := fun x : Int => [.int .i64 x]) hjl).keep (Keep.of_below hw) hSi
       obtain ⟨es, _, hrx, hlies⟩ := HL.out.lies hjk
       have hsel : ((ids.zip l).take (j + 1)).filter (fun p => decide (p.1 = fid)) = ((ids.zip l).take j).filter (fun p => decide (p.1 = fid)) ++ (if ids[j] = fid then [(ids[j], l[j])] else []) := by
        rw [List.take_succ_eq_append_getElem (by rw [List.length_zip]; omega), List.filter_append]
        congr 1
        by_cases h : ids[j] = fid <;> simp [h]
       obtain ⟨idj, hid⟩ : ∃ id, id = ids[j] := ⟨_, rfl⟩
       obtain ⟨x, hx⟩ : ∃ x, x = l[j] := ⟨_, rfl⟩
       rw [← hid] at hci
       rw [← hx] at hrx
       rw [← hid, ← hx] at hsel
       obtain ⟨xk, xn, xs, xi, xl⟩ := x
       obtain ⟨E1, f1, E2, f2, rfl, _, _⟩ := hrx.parts
       have HXr := Lib.hid (RVal.fair.mono hrx (T := fun y => S' y ∧ y < w.heap.size) (fun y hy hl => ⟨hy, hl⟩))
       have HLs := Lib.hid hlies
       obtain ⟨Sj, hSj⟩ : ∃ S, S = ((ids.zip l).take j).filter (fun p => decide (p.1 = fid)) := ⟨_, rfl⟩
       have hSl2 : Sj.length ≤ 100000 := by
        rw [hSj]
        have := List.length_filter_le (fun p : Int × ValueD => decide (p.1 = fid)) ((ids.zip l).take j)
        rw [List.length_take, List.length_zip] at this
        omega
       rw [← hSj] at hR hsel
       have q0 : wr.cell? ⟨ig, io + j, none⟩ = some (.int .i64 idj) := by have := hci.at_ 0 rfl; simpa using this
       have hgil : ig < wr.heap.size := Nat.lt_of_lt_of_le hgi hw.size
       have c0 := zX.cell 0
       have hlX := zX.lt
       simp only [List.getElem?_cons_zero] at c0
       clear hci hrx hlies hid hx hSj
       by_cases heq : idj = fid
       ·have Hsel : Hid (P1 ++ ((ids.zip l).take (j + 1)).filter (fun p => decide (p.1 = fid)) = P1 ++ (Sj ++ [(idj, ValueD.mk xk xn xs xi xl)])) := by show _ = _; rw [hsel, if_pos heq]
        have heb : (idj == fid) = true := by simpa using heq
        clear heq hsel
        go_wp2_with fail
        clear c0 q0
        generalize hW9 : wr = W9 at *
        have HSK2 : Hid (∀ W', Box W' (w.heap.size + 1 + 1 + 1 + 1) 28 [.int .i64 2, .int .i64 0, .string ⟨#[]⟩, vi, vl] → Box W' X 56 [.int .i64 fid, .string fname, .string ftype, .int .i64 fkind, .int .i64 frule] → Box W' (w.heap.size + 1 + 1) 28 [.int .i64 kind, .int .i64 nn, .string s, .slice (some ⟨ig, io, none⟩) ids.length d1, .slice (some ⟨lg, lo, none⟩) l.length d2] → Box W' w.heap.size 24 [.slice A b.length cap] → Below w.heap.size w W' → (fun W' => (W'.cell? ⟨(w.heap.size + 1 + 1 + 1 + 1), 3, none⟩ = some vi ∧ W'.cell? ⟨(w.heap.size + 1 + 1 + 1 + 1), 4, none⟩ = some vl) ∧ W'.cell? ⟨w.heap.size + 1 + 1, 4, none⟩ = some (.slice (some ⟨lg, lo, none⟩) l.length d2) ∧ (W'.cell? ⟨lg, lo + j * 5, none⟩ = some (.int .i64 xk) ∧ W'.cell? ⟨lg, lo + j * 5 + 1, none⟩ = some (.int .i64 xn) ∧ W'.cell? ⟨lg, lo + j * 5 + 2, none⟩ = some (.string xs) ∧ W'.cell? ⟨lg, lo + j * 5 + 3, none⟩ = some (.slice E1 xi.length f1) ∧ W'.cell? ⟨lg, lo + j * 5 + 4, none⟩ = some (.slice E2 xl.length f2))) W') :=
         fun W' h1 _ h3 _ h5 => ⟨⟨h1.cell 3, h1.cell 4⟩, h3.cell 4, by
          have hc := HLs.out.keep (S := Old w) (Keep.of_below h5) hlgw
          exact ⟨hc.at_ 0 rfl, hc.at_ 1 rfl, hc.at_ 2 rfl, hc.at_ 3 rfl, hc.at_ 4 rfl⟩⟩
        have HSK := HSK2
        replace hR := hR.drew
        replace zG := zG.drew
        replace zR := zR.drew
        replace zV := zV.drew
        replace zB := zB.drew
        replace zX := zX.drew
        replace hw := below_drew hw
        have hS := trivial
        replace hS := HSK.out _ zG zX zV zB hw
        refine late_start (fun W' => (W'.cell? ⟨(w.heap.size + 1 + 1 + 1 + 1), 3, none⟩ = some vi ∧ W'.cell? ⟨(w.heap.size + 1 + 1 + 1 + 1), 4, none⟩ = some vl) ∧ W'.cell? ⟨w.heap.size + 1 + 1, 4, none⟩ = some (.slice (some ⟨lg, lo, none⟩) l.length d2) ∧ (W'.cell? ⟨lg, lo + j * 5, none⟩ = some (.int .i64 xk) ∧ W'.cell? ⟨lg, lo + j * 5 + 1, none⟩ = some (.int .i64 xn) ∧ W'.cell? ⟨lg, lo + j * 5 + 2, none⟩ = some (.string xs) ∧ W'.cell? ⟨lg, lo + j * 5 + 3, none⟩ = some (.slice E1 xi.length f1) ∧ W'.cell? ⟨lg, lo + j * 5 + 4, none⟩ = some (.slice E2 xl.length f2))) 15 (by kernel_rfl) ?_
        refine tkL 0 hS ?_
        try simp only [pu]
        refine tkL 1 hS ?_
        try simp only [pu]
        refine tkL 2 hS ?_
        try simp only [pu]
        refine tkL 5 hS ?_
        try simp only [pu]
        refine tkL 6 hS ?_
        try simp only [pu]
        refine tkL 7 hS ?_
        try simp only [pu]
        refine tkL 8 hS ?_
        try simp only [pu]
        refine tkL 9 hS ?_
        try simp only [pu]
        refine tkL 10 hS ?_
        try simp only [pu]
        refine tkL 11 hS ?_
        try simp only [pu]
        refine late_two (i := 3) (j := 12) rfl rfl (by kernel_rfl) (fun K hK => ?_) (fun K hK => ?_)
        ·go_simp
         have hZ1 := Box.newB hw 3 [.int .i64 idj]
         try simp only [World.size_alloc] at hZ1
         replace hR := hR.alloc (.cells #[.int .i64 idj] 3)
         replace zG := zG.alloc (.cells #[.int .i64 idj] 3)
         replace zR := zR.alloc (.cells #[.int .i64 idj] 3)
         replace zV := zV.alloc (.cells #[.int .i64 idj] 3)
         replace zB := zB.alloc (.cells #[.int .i64 idj] 3)
         replace zX := zX.alloc (.cells #[.int .i64 idj] 3)
         (first | (replace hZ2 := hZ2.alloc (.cells #[.int .i64 idj] 3)) | skip)
         replace hw := hw.alloc hw.size (.cells #[.int .i64 idj] 3)
         replace hS := HSK.out _ zG zX zV zB hw
         refine hK.out _ _ (fun _ => hS) ?_
         clear hK K
         try simp only [pu]
         refine late_two (i := 4) (j := 12) rfl rfl (by kernel_rfl) (fun K hK => ?_) (fun K hK => ?_)
         ·refine step_append _ rfl (.tmp 59) (.tmp 61) rfl sl_ints RInt.fair rfl rfl hR.ids (Src.one (es := [.int .i64 idj]) (y := idj) rfl (Ones.of_all rfl) rfl hZ1.lies) (NoT.lt _) (by go_light; simp; omega) hR.hb ?_
          intro v1 wk1 ho1 hg1 hv1
          have hR' := hR.push_id ho1 hg1 hv1
          replace zG := zG.grownR hR.ids (by first | exact .inl (by go_light; omega) | exact .inr (by decide)) hg1
          replace zR := zR.grownR hR.ids (by first | exact .inl (by go_light; omega) | exact .inr (by decide)) hg1
          replace zV := zV.grownR hR.ids (by first | exact .inl (by go_light; omega) | exact .inr (by decide)) hg1
          replace zB := zB.grownR hR.ids (by first | exact .inl (by go_light; omega) | exact .inr (by decide)) hg1
          replace zX := zX.grownR hR.ids (by first | exact .inl (by go_light; omega) | exact .inr (by decide)) hg1
          (first | (replace hZ2 := hZ2.grownR hR.ids (.inr (by decide)) hg1) | skip)
          replace hw := below_grown hw hg1 hw.size (fun g' h => by go_light; have := (hR.ilt h).1; omega)
          replace hR := hR'
          clear hR'
          replace hS := HSK.out _ zG zX zV zB hw
          refine hK.out _ _ (fun _ => hS) ?_
          clear hK K
          try simp only [pu]
          refine tkL 14 hS ?_
          try simp only [pu]
          refine late_one (i := 12) rfl (by kernel_rfl) (fun K hK => ?_)
          go_simp
          have hZ2 := Box.newB hw 28 [.int .i64 xk, .int .i64 xn, .string xs, .slice E1 xi.length f1, .slice E2 xl.length f2]
          try simp only [World.size_alloc] at hZ2
          replace hR := hR.alloc (.cells [.int .i64 xk, .int .i64 xn, .string xs, .slice E1 xi.length f1, .slice E2 xl.length f2].toArray 28)
          replace zG := zG.alloc (.cells [.int .i64 xk, .int .i64 xn, .string xs, .slice E1 xi.length f1, .slice E2 xl.length f2].toArray 28)
          replace zR := zR.alloc (.cells [.int .i64 xk, .int .i64 xn, .string xs, .slice E1 xi.length f1, .slice E2 xl.length f2].toArray 28)
          replace zV := zV.alloc (.cells [.int .i64 xk, .int .i64 xn, .string xs, .slice E1 xi.length f1, .slice E2 xl.length f2].toArray 28)
          replace zB := zB.alloc (.cells [.int .i64 xk, .int .i64 xn, .string xs, .slice E1 xi.length f1, .slice E2 xl.length f2].toArray 28)
          replace zX := zX.alloc (.cells [.int .i64 xk, .int .i64 xn, .string xs, .slice E1 xi.length f1, .slice E2 xl.length f2].toArray 28)
          (first | (replace hZ1 := hZ1.alloc (.cells [.int .i64 xk, .int .i64 xn, .string xs, .slice E1 xi.length f1, .slice E2 xl.length f2].toArray 28)) | skip)
          replace hw := hw.alloc hw.size (.cells [.int .i64 xk, .int .i64 xn, .string xs, .slice E1 xi.length f1, .slice E2 xl.length f2].toArray 28)
          replace hS := HSK.out _ zG zX zV zB hw
          refine hK.out _ _ (fun _ => hS) ?_
          clear hK K
          try simp only [pu]
          refine late_one (i := 13) rfl (by kernel_rfl) (fun K hK => ?_)
          refine step_append _ rfl (.tmp 64) (.tmp 70) rfl sl_vals RVal.fair rfl rfl hR.lrow (Src.one (es := [.int .i64 xk, .int .i64 xn, .string xs, .slice E1 xi.length f1, .slice E2 xl.length f2]) (y := ValueD.mk xk xn xs xi xl) rfl (Ones.of_all rfl) (hR.apart (RVal.fair.keep HXr.out (Keep.of_below hw)) (fun y hy _ => ⟨.inr ⟨by go_light; have := hy.2; omega, by go_light; have := hy.2; omega⟩, .inr hy⟩)) hZ2.lies) (fun _ h => h.2) (by go_light; simp; omega) hR.hb ?_
          intro v5 w5 ho5 hg5 hv5
          have hR' := hR.push_l ho5 hg5 hv5
          replace zG := zG.grownR hR.l (by first | exact .inl (by go_light; omega) | exact .inr (by decide)) hg5
          replace zR := zR.grownR hR.l (by first | exact .inl (by go_light; omega) | exact .inr (by decide)) hg5
          replace zV := zV.grownR hR.l (by first | exact .inl (by go_light; omega) | exact .inr (by decide)) hg5
          replace zB := zB.grownR hR.l (by first | exact .inl (by go_light; omega) | exact .inr (by decide)) hg5
          replace zX := zX.grownR hR.l (by first | exact .inl (by go_light; omega) | exact .inr (by decide)) hg5
          replace hw := below_grown hw hg5 hw.size (fun g' h => by go_light; have := (hR.llt h).1; omega)
          replace hR := hR'
          clear hR'
          replace hS := HSK.out _ zG zX zV zB hw
          have fz3 := zG.frozen 3
          have cz3 := zG.cell 3
          have fz4 := zG.frozen 4
          have cz4 := zG.cell 4
          have lz := zG.lt
          simp only [List.getElem?_cons_zero, List.getElem?_cons_succ] at cz3 cz4
          obtain ⟨R1, p1, rfl, _⟩ := hR.ids.form
          obtain ⟨R2, p2, rfl, _⟩ := hR.l.form
          refine hK.out _ _ (fun _ => hS) ?_
          clear hK K
          try simp only [pu]
          refine late_one (i := 15) rfl (by kernel_rfl) (fun K hK => ?_)
          go_simp
          refine hK.out _ _ (fun h => absurd h (by decide)) ?_
          clear hK K
          try simp only [pu]
          refine late_one (i := 16) rfl (by kernel_rfl) (fun K hK => ?_)
          go_simp
          refine hK.out _ _ (fun h => absurd h (by decide)) ?_
          clear hK K
          try simp only [pu]
          refine late_one (i := 17) rfl (by kernel_rfl) (fun K hK => ?_)
          go_simp
          refine hK.out _ _ (fun h => absurd h (by decide)) ?_
          clear hK K
          try simp only [pu]
          refine late_done (by kernel_rfl) ?_ _
          simp only [List.length_append, List.length_map, List.length_cons, List.length_nil, Nat.zero_add] at hR
          replace hR := (hR.setCell 3 (.slice R1 (P1.length + Sj.length + 1) p1)).setCell 4 (.slice R2 (P1.length + Sj.length + 1) p2)
          replace zG := (zG.set_ 3 (.slice R1 (P1.length + Sj.length + 1) p1)).set_ 4 (.slice R2 (P1.length + Sj.length + 1) p2)
          simp only [List.set_cons_zero, List.set_cons_succ, List.length_append, List.length_map, List.length_cons, List.length_nil, Nat.zero_add] at zG
          replace zR := zR.far (p := ⟨(w.heap.size + 1 + 1 + 1 + 1), 3, none⟩) (by first | (simp; done) | (simp; omega)) (.slice R1 (P1.length + Sj.length + 1) p1)
          replace zV := zV.far (p := ⟨(w.heap.size + 1 + 1 + 1 + 1), 3, none⟩) (by first | (simp; done) | (simp; omega)) (.slice R1 (P1.length + Sj.length + 1) p1)
          replace zB := zB.far (p := ⟨(w.heap.size + 1 + 1 + 1 + 1), 3, none⟩) (by first | (simp; done) | (simp; omega)) (.slice R1 (P1.length + Sj.length + 1) p1)
          replace zX := zX.far (p := ⟨(w.heap.size + 1 + 1 + 1 + 1), 3, none⟩) (by first | (simp; done) | (simp; omega)) (.slice R1 (P1.length + Sj.length + 1) p1)
          replace zR := zR.far (p := ⟨(w.heap.size + 1 + 1 + 1 + 1), 4, none⟩) (by first | (simp; done) | (simp; omega)) (.slice R2 (P1.length + Sj.length + 1) p2)
          replace zV := zV.far (p := ⟨(w.heap.size + 1 + 1 + 1 + 1), 4, none⟩) (by first | (simp; done) | (simp; omega)) (.slice R2 (P1.length + Sj.length + 1) p2)
          replace zB := zB.far (p := ⟨(w.heap.size + 1 + 1 + 1 + 1), 4, none⟩) (by first | (simp; done) | (simp; omega)) (.slice R2 (P1.length + Sj.length + 1) p2)
          replace zX := zX.far (p := ⟨(w.heap.size + 1 + 1 + 1 + 1), 4, none⟩) (by first | (simp; done) | (simp; omega)) (.slice R2 (P1.length + Sj.length + 1) p2)
          replace hw := (hw.setCell (p := ⟨(w.heap.size + 1 + 1 + 1 + 1), 3, none⟩) (by first | (simp; done) | (simp; omega)) (.slice R1 (P1.length + Sj.length + 1) p1)).setCell (p := ⟨(w.heap.size + 1 + 1 + 1 + 1), 4, none⟩) (by first | (simp; done) | (simp; omega)) (.slice R2 (P1.length + Sj.length + 1) p2)
          clear hS fz3 cz3 fz4 cz4 lz hg5 hv5 ho5 hg1 hv1 ho1
          go_wp2_with fail
          go_roundw
          case rel => exact ⟨j + 1, _, _, by go_num, by go_light; omega, by rw [Hsel.out]; simpa [Nat.add_assoc] using hR, zG, zR, zV, zB, zX, hw⟩
          case measure => go_light; simp [intOf]; omega
         ·go_simp
          have hZ2 := Box.newB hw 28 [.int .i64 xk, .int .i64 xn, .string xs, .slice E1 xi.length f1, .slice E2 xl.length f2]
          try simp only [World.size_alloc] at hZ2
          replace hR := hR.alloc (.cells [.int .i64 xk, .int .i64 xn, .string xs, .slice E1 xi.length f1, .slice E2 xl.length f2].toArray 28)
          replace zG := zG.alloc (.cells [.int .i64 xk, .int .i64 xn, .string xs, .slice E1 xi.length f1, .slice E2 xl.length f2].toArray 28)
          replace zR := zR.alloc (.cells [.int .i64 xk, .int .i64 xn, .string xs, .slice E1 xi.length f1, .slice E2 xl.length f2].toArray 28)
          replace zV := zV.alloc (.cells [.int .i64 xk, .int .i64 xn, .string xs, .slice E1 xi.length f1, .slice E2 xl.length f2].toArray 28)
          replace zB := zB.alloc (.cells [.int .i64 xk, .int .i64 xn, .string xs, .slice E1 xi.length f1, .slice E2 xl.length f2].toArray 28)
          replace zX := zX.alloc (.cells [.int .i64 xk, .int .i64 xn, .string xs, .slice E1 xi.length f1, .slice E2 xl.length f2].toArray 28)
          (first | (replace hZ1 := hZ1.alloc (.cells [.int .i64 xk, .int .i64 xn, .string xs, .slice E1 xi.length f1, .slice E2 xl.length f2].toArray 28)) | skip)
          replace hw := hw.alloc hw.size (.cells [.int .i64 xk, .int .i64 xn, .string xs, .slice E1 xi.length f1, .slice E2 xl.length f2].toArray 28)
          replace hS := HSK.out _ zG zX zV zB hw
          refine hK.out _ _ (fun _ => hS) ?_
          clear hK K
          try simp only [pu]
          refine late_one (i := 4) rfl (by kernel_rfl) (fun K hK => ?_)
          refine step_append _ rfl (.tmp 59) (.tmp 61) rfl sl_ints RInt.fair rfl rfl hR.ids (Src.one (es := [.int .i64 idj]) (y := idj) rfl (Ones.of_all rfl) rfl hZ1.lies) (NoT.lt _) (by go_light; simp; omega) hR.hb ?_
          intro v1 wk1 ho1 hg1 hv1
          have hR' := hR.push_id ho1 hg1 hv1
          replace zG := zG.grownR hR.ids (by first | exact .inl (by go_light; omega) | exact .inr (by decide)) hg1
          replace zR := zR.grownR hR.ids (by first | exact .inl (by go_light; omega) | exact .inr (by decide)) hg1
          replace zV := zV.grownR hR.ids (by first | exact .inl (by go_light; omega) | exact .inr (by decide)) hg1
          replace zB := zB.grownR hR.ids (by first | exact .inl (by go_light; omega) | exact .inr (by decide)) hg1
          replace zX := zX.grownR hR.ids (by first | exact .inl (by go_light; omega) | exact .inr (by decide)) hg1
          (first | (replace hZ2 := hZ2.grownR hR.ids (.inr (by decide)) hg1) | skip)
          replace hw := below_grown hw hg1 hw.size (fun g' h => by go_light; have := (hR.ilt h).1; omega)
          replace hR := hR'
          clear hR'
          replace hS := HSK.out _ zG zX zV zB hw
          refine hK.out _ _ (fun _ => hS) ?_
          clear hK K
          try simp only [pu]
          refine tkL 14 hS ?_
          try simp only [pu]
          refine late_one (i := 13) rfl (by kernel_rfl) (fun K hK => ?_)
          refine step_append _ rfl (.tmp 64) (.tmp 70) rfl sl_vals RVal.fair rfl rfl hR.lrow (Src.one (es := [.int .i64 xk, .int .i64 xn, .string xs, .slice E1 xi.length f1, .slice E2 xl.length f2]) (y := ValueD.mk xk xn xs xi xl) rfl (Ones.of_all rfl) (hR.apart (RVal.fair.keep HXr.out (Keep.of_below hw)) (fun y hy _ => ⟨.inr ⟨by go_light; have := hy.2; omega, by go_light; have := hy.2; omega⟩, .inr hy⟩)) hZ2.lies) (fun _ h => h.2) (by go_light; simp; omega) hR.hb ?_
          intro v5 w5 ho5 hg5 hv5
          have hR' := hR.push_l ho5 hg5 hv5
          replace zG := zG.grownR hR.l (by first | exact .inl (by go_light; omega) | exact .inr (by decide)) hg5
          replace zR := zR.grownR hR.l (by first | exact .inl (by go_light; omega) | exact .inr (by decide)) hg5
          replace zV := zV.grownR hR.l (by first | exact .inl (by go_light; omega) | exact .inr (by decide)) hg5
          replace zB := zB.grownR hR.l (by first | exact .inl (by go_light; omega) | exact .inr (by decide)) hg5
          replace zX := zX.grownR hR.l (by first | exact .inl (by go_light; omega) | exact .inr (by decide)) hg5
          replace hw := below_grown hw hg5 hw.size (fun g' h => by go_light; have := (hR.llt h).1; omega)
          replace hR := hR'
          clear hR'
          replace hS := HSK.out _ zG zX zV zB hw
          have fz3 := zG.frozen 3
          have cz3 := zG.cell 3
          have fz4 := zG.frozen 4
          have cz4 := zG.cell 4
          have lz := zG.lt
          simp only [List.getElem?_cons_zero, List.getElem?_cons_succ] at cz3 cz4
          obtain ⟨R1, p1, rfl, _⟩ := hR.ids.form
          obtain ⟨R2, p2, rfl, _⟩ := hR.l.form
          refine hK.out _ _ (fun _ => hS) ?_
          clear hK K
          try simp only [pu]
          refine late_one (i := 15) rfl (by kernel_rfl) (fun K hK => ?_)
          go_simp
          refine hK.out _ _ (fun h => absurd h (by decide)) ?_
          clear hK K
          try simp only [pu]
          refine late_one (i := 16) rfl (by kernel_rfl) (fun K hK => ?_)
          go_simp
          refine hK.out _ _ (fun h => absurd h (by decide)) ?_
          clear hK K
          try simp only [pu]
          refine late_one (i := 17) rfl (by kernel_rfl) (fun K hK => ?_)
          go_simp
          refine hK.out _ _ (fun h => absurd h (by decide)) ?_
          clear hK K
          try simp only [pu]
          refine late_done (by kernel_rfl) ?_ _
          simp only [List.length_append, List.length_map, List.length_cons, List.length_nil, Nat.zero_add] at hR
          replace hR := (hR.setCell 3 (.slice R1 (P1.length + Sj.length + 1) p1)).setCell 4 (.slice R2 (P1.length + Sj.length + 1) p2)
          replace zG := (zG.set_ 3 (.slice R1 (P1.length + Sj.length + 1) p1)).set_ 4 (.slice R2 (P1.length + Sj.length + 1) p2)
          simp only [List.set_cons_zero, List.set_cons_succ, List.length_append, List.length_map, List.length_cons, List.length_nil, Nat.zero_add] at zG
          replace zR := zR.far (p := ⟨(w.heap.size + 1 + 1 + 1 + 1), 3, none⟩) (by first | (simp; done) | (simp; omega)) (.slice R1 (P1.length + Sj.length + 1) p1)
          replace zV := zV.far (p := ⟨(w.heap.size + 1 + 1 + 1 + 1), 3, none⟩) (by first | (simp; done) | (simp; omega)) (.slice R1 (P1.length + Sj.length + 1) p1)
          replace zB := zB.far (p := ⟨(w.heap.size + 1 + 1 + 1 + 1), 3, none⟩) (by first | (simp; done) | (simp; omega)) (.slice R1 (P1.length + Sj.length + 1) p1)
          replace zX := zX.far (p := ⟨(w.heap.size + 1 + 1 + 1 + 1), 3, none⟩) (by first | (simp; done) | (simp; omega)) (.slice R1 (P1.length + Sj.length + 1) p1)
          replace zR := zR.far (p := ⟨(w.heap.size + 1 + 1 + 1 + 1), 4, none⟩) (by first | (simp; done) | (simp; omega)) (.slice R2 (P1.length + Sj.length + 1) p2)
          replace zV := zV.far (p := ⟨(w.heap.size + 1 + 1 + 1 + 1), 4, none⟩) (by first | (simp; done) | (simp; omega)) (.slice R2 (P1.length + Sj.length + 1) p2)
          replace zB := zB.far (p := ⟨(w.heap.size + 1 + 1 + 1 + 1), 4, none⟩) (by first | (simp; done) | (simp; omega)) (.slice R2 (P1.length + Sj.length + 1) p2)
          replace zX := zX.far (p := ⟨(w.heap.size + 1 + 1 + 1 + 1), 4, none⟩) (by first | (simp; done) | (simp; omega)) (.slice R2 (P1.length + Sj.length + 1) p2)
          replace hw := (hw.setCell (p := ⟨(w.heap.size + 1 + 1 + 1 + 1), 3, none⟩) (by first | (simp; done) | (simp; omega)) (.slice R1 (P1.length + Sj.length + 1) p1)).setCell (p := ⟨(w.heap.size + 1 + 1 + 1 + 1), 4, none⟩) (by first | (simp; done) | (simp; omega)) (.slice R2 (P1.length + Sj.length + 1) p2)
          clear hS fz3 cz3 fz4 cz4 lz hg5 hv5 ho5 hg1 hv1 ho1
          go_wp2_with fail
          go_roundw
          case rel => exact ⟨j + 1, _, _, by go_num, by go_light; omega, by rw [Hsel.out]; simpa [Nat.add_assoc] using hR, zG, zR, zV, zB, zX, hw⟩
          case measure => go_light; simp [intOf]; omega
        ·go_simp
         have hZ2 := Box.newB hw 28 [.int .i64 xk, .int .i64 xn, .string xs, .slice E1 xi.length f1, .slice E2 xl.length f2]
         try simp only [World.size_alloc] at hZ2
         replace hR := hR.alloc (.cells [.int .i64 xk, .int .i64 xn, .string xs, .slice E1 xi.length f1, .slice E2 xl.length f2].toArray 28)
         replace zG := zG.alloc (.cells [.int .i64 xk, .int .i64 xn, .string xs, .slice E1 xi.length f1, .slice E2 xl.length f2].toArray 28)
         replace zR := zR.alloc (.cells [.int .i64 xk, .int .i64 xn, .string xs, .slice E1 xi.length f1, .slice E2 xl.length f2].toArray 28)
         replace zV := zV.alloc (.cells [.int .i64 xk, .int .i64 xn, .string xs, .slice E1 xi.length f1, .slice E2 xl.length f2].toArray 28)
         replace zB := zB.alloc (.cells [.int .i64 xk, .int .i64 xn, .string xs, .slice E1 xi.length f1, .slice E2 xl.length f2].toArray 28)
         replace zX := zX.alloc (.cells [.int .i64 xk, .int .i64 xn, .string xs, .slice E1 xi.length f1, .slice E2 xl.length f2].toArray 28)
         (first | (replace hZ1 := hZ1.alloc (.cells [.int .i64 xk, .int .i64 xn, .string xs, .slice E1 xi.length f1, .slice E2 xl.length f2].toArray 28)) | skip)
         replace hw := hw.alloc hw.size (.cells [.int .i64 xk, .int .i64 xn, .string xs, .slice E1 xi.length f1, .slice E2 xl.length f2].toArray 28)
         replace hS := HSK.out _ zG zX zV zB hw
         refine hK.out _ _ (fun _ => hS) ?_
         clear hK K
         try simp only [pu]
         refine late_one (i := 3) rfl (by kernel_rfl) (fun K hK => ?_)
         go_simp
         have hZ1 := Box.newB hw 3 [.int .i64 idj]
         try simp only [World.size_alloc] at hZ1
         replace hR := hR.alloc (.cells #[.int .i64 idj] 3)
         replace zG := zG.alloc (.cells #[.int .i64 idj] 3)
         replace zR := zR.alloc (.cells #[.int .i64 idj] 3)
         replace zV := zV.alloc (.cells #[.int .i64 idj] 3)
         replace zB := zB.alloc (.cells #[.int .i64 idj] 3)
         replace zX := zX.alloc (.cells #[.int .i64 idj] 3)
         (first | (replace hZ2 := hZ2.alloc (.cells #[.int .i64 idj] 3)) | skip)
         replace hw := hw.alloc hw.size (.cells #[.int .i64 idj] 3)
         replace hS := HSK.out _ zG zX zV zB hw
         refine hK.out _ _ (fun _ => hS) ?_
         clear hK K
         try simp only [pu]
         refine late_one (i := 4) rfl (by kernel_rfl) (fun K hK => ?_)
         refine step_append _ rfl (.tmp 59) (.tmp 61) rfl sl_ints RInt.fair rfl rfl hR.ids (Src.one (es := [.int .i64 idj]) (y := idj) rfl (Ones.of_all rfl) rfl hZ1.lies) (NoT.lt _) (by go_light; simp; omega) hR.hb ?_
         intro v1 wk1 ho1 hg1 hv1
         have hR' := hR.push_id ho1 hg1 hv1
         replace zG := zG.grownR hR.ids (by first | exact .inl (by go_light; omega) | exact .inr (by decide)) hg1
         replace zR := zR.grownR hR.ids (by first | exact .inl (by go_light; omega) | exact .inr (by decide)) hg1
         replace zV := zV.grownR hR.ids (by first | exact .inl (by go_light; omega) | exact .inr (by decide)) hg1
         replace zB := zB.grownR hR.ids (by first | exact .inl (by go_light; omega) | exact .inr (by decide)) hg1
         replace zX := zX.grownR hR.ids (by first | exact .inl (by go_light; omega) | exact .inr (by decide)) hg1
         (first | (replace hZ2 := hZ2.grownR hR.ids (.inr (by decide)) hg1) | skip)
         replace hw := below_grown hw hg1 hw.size (fun g' h => by go_light; have := (hR.ilt h).1; omega)
         replace hR := hR'
         clear hR'
         replace hS := HSK.out _ zG zX zV zB hw
         refine hK.out _ _ (fun _ => hS) ?_
         clear hK K
         try simp only [pu]
         refine tkL 14 hS ?_
         try simp only [pu]
         refine late_one (i := 13) rfl (by kernel_rfl) (fun K hK => ?_)
         refine step_append _ rfl (.tmp 64) (.tmp 70) rfl sl_vals RVal.fair rfl rfl hR.lrow (Src.one (es := [.int .i64 xk, .int .i64 xn, .string xs, .slice E1 xi.length f1, .slice E2 xl.length f2]) (y := ValueD.mk xk xn xs xi xl) rfl (Ones.of_all rfl) (hR.apart (RVal.fair.keep HXr.out (Keep.of_below hw)) (fun y hy _ => ⟨.inr ⟨by go_light; have := hy.2; omega, by go_light; have := hy.2; omega⟩, .inr hy⟩)) hZ2.lies) (fun _ h => h.2) (by go_light; simp; omega) hR.hb ?_
         intro v5 w5 ho5 hg5 hv5
         have hR' := hR.push_l ho5 hg5 hv5
         replace zG := zG.grownR hR.l (by first | exact .inl (by go_light; omega) | exact .inr (by decide)) hg5
         replace zR := zR.grownR hR.l (by first | exact .inl (by go_light; omega) | exact .inr (by decide)) hg5
         replace zV := zV.grownR hR.l (by first | exact .inl (by go_light; omega) | exact .inr (by decide)) hg5
         replace zB := zB.grownR hR.l (by first | exact .inl (by go_light; omega) | exact .inr (by decide)) hg5
         replace zX := zX.grownR hR.l (by first | exact .inl (by go_light; omega) | exact .inr (by decide)) hg5
         replace hw := below_grown hw hg5 hw.size (fun g' h => by go_light; have := (hR.llt h).1; omega)
         replace hR := hR'
         clear hR'
         replace hS := HSK.out _ zG zX zV zB hw
         have fz3 := zG.frozen 3
         have cz3 := zG.cell 3
         have fz4 := zG.frozen 4
         have cz4 := zG.cell 4
         have lz := zG.lt
         simp only [List.getElem?_cons_zero, List.getElem?_cons_succ] at cz3 cz4
         obtain ⟨R1, p1, rfl, _⟩ := hR.ids.form
         obtain ⟨R2, p2, rfl, _⟩ := hR.l.form
         refine hK.out _ _ (fun _ => hS) ?_
         clear hK K
         try simp only [pu]
         refine late_one (i := 15) rfl (by kernel_rfl) (fun K hK => ?_)
         go_simp
         refine hK.out _ _ (fun h => absurd h (by decide)) ?_
         clear hK K
         try simp only [pu]
         refine late_one (i := 16) rfl (by kernel_rfl) (fun K hK => ?_)
         go_simp
         refine hK.out _ _ (fun h => absurd h (by decide)) ?_
         clear hK K
         try simp only [pu]
         refine late_one (i := 17) rfl (by kernel_rfl) (fun K hK => ?_)
         go_simp
         refine hK.out _ _ (fun h => absurd h (by decide)) ?_
         clear hK K
         try simp only [pu]
         refine late_done (by kernel_rfl) ?_ _
         simp only [List.length_append, List.length_map, List.length_cons, List.length_nil, Nat.zero_add] at hR
         replace hR := (hR.setCell 3 (.slice R1 (P1.length + Sj.length + 1) p1)).setCell 4 (.slice R2 (P1.length + Sj.length + 1) p2)
         replace zG := (zG.set_ 3 (.slice R1 (P1.length + Sj.length + 1) p1)).set_ 4 (.slice R2 (P1.length + Sj.length + 1) p2)
         simp only [List.set_cons_zero, List.set_cons_succ, List.length_append, List.length_map, List.length_cons, List.length_nil, Nat.zero_add] at zG
         replace zR := zR.far (p := ⟨(w.heap.size + 1 + 1 + 1 + 1), 3, none⟩) (by first | (simp; done) | (simp; omega)) (.slice R1 (P1.length + Sj.length + 1) p1)
         replace zV := zV.far (p := ⟨(w.heap.size + 1 + 1 + 1 + 1), 3, none⟩) (by first | (simp; done) | (simp; omega)) (.slice R1 (P1.length + Sj.length + 1) p1)
         replace zB := zB.far (p := ⟨(w.heap.size + 1 + 1 + 1 + 1), 3, none⟩) (by first | (simp; done) | (simp; omega)) (.slice R1 (P1.length + Sj.length + 1) p1)
         replace zX := zX.far (p := ⟨(w.heap.size + 1 + 1 + 1 + 1), 3, none⟩) (by first | (simp; done) | (simp; omega)) (.slice R1 (P1.length + Sj.length + 1) p1)
         replace zR := zR.far (p := ⟨(w.heap.size + 1 + 1 + 1 + 1), 4, none⟩) (by first | (simp; done) | (simp; omega)) (.slice R2 (P1.length + Sj.length + 1) p2)
         replace zV := zV.far (p := ⟨(w.heap.size + 1 + 1 + 1 + 1), 4, none⟩) (by first | (simp; done) | (simp; omega)) (.slice R2 (P1.length + Sj.length + 1) p2)
         replace zB := zB.far (p := ⟨(w.heap.size + 1 + 1 + 1 + 1), 4, none⟩) (by first | (simp; done) | (simp; omega)) (.slice R2 (P1.length + Sj.length + 1) p2)
         replace zX := zX.far (p := ⟨(w.heap.size + 1 + 1 + 1 + 1), 4, none⟩) (by first | (simp; done) | (simp; omega)) (.slice R2 (P1.length + Sj.length + 1) p2)
         replace hw := (hw.setCell (p := ⟨(w.heap.size + 1 + 1 + 1 + 1), 3, none⟩) (by first | (simp; done) | (simp; omega)) (.slice R1 (P1.length + Sj.length + 1) p1)).setCell (p := ⟨(w.heap.size + 1 + 1 + 1 + 1), 4, none⟩) (by first | (simp; done) | (simp; omega)) (.slice R2 (P1.length + Sj.length + 1) p2)
         clear hS fz3 cz3 fz4 cz4 lz hg5 hv5 ho5 hg1 hv1 ho1
         go_wp2_with fail
         go_roundw
         case rel => exact ⟨j + 1, _, _, by go_num, by go_light; omega, by rw [Hsel.out]; simpa [Nat.add_assoc] using hR, zG, zR, zV, zB, zX, hw⟩
         case measure => go_light; simp [intOf]; omega
       ·have Hsel : Hid (P1 ++ ((ids.zip l).take (j + 1)).filter (fun p => decide (p.1 = fid)) = P1 ++ Sj) := by show _ = _; rw [hsel, if_neg heq, List.append_nil]
        have heb : (idj == fid) = false := by simpa using heq
        clear heq hsel
        go_wp2_with fail
        go_roundw
        case rel => exact ⟨j + 1, _, _, by go_num, by go_light; omega, by rw [Hsel.out]; exact hR, zG, zR, zV, zB, zX, hw⟩
        case measure => go_light; simp [intOf]; omega
      ·have hfull : (ids.zip l).take j = ids.zip l := List.take_of_length_le (by rw [List.length_zip]; omega)
       rw [hfull, ← Hsucc.out] at hR
       go_wp2_with fail
       go_roundw
       case rel => exact ⟨n + 1, _, _, by go_num, by go_light; omega, hR, zG, zR, zV, zB, hw⟩
       case measure => go_light; simp [intOf]; omega
  ·have hle := HLen.out n hn
   have hall : fillTo b t ids l n = t.fields.flatMap (filledGo b 4 ids l) := by unfold fillTo; rw [List.take_of_length_le (by go_light; omega)]
   rw [hall] at hro hle
   obtain ⟨v, hv⟩ : ∃ v, v = filledF b 4 t ids l := ⟨_, rfl⟩
   obtain ⟨L, hL⟩ : ∃ L, L = t.fields.flatMap (filledGo b 4 ids l) := ⟨_, rfl⟩
   have hv2 : v = .mk 2 0 ⟨#[]⟩ (L.map (·.1)) (L.map (·.2)) := by rw [hv, hL]; rfl
   rw [← hL] at hro hle
   obtain ⟨R1, p1, rfl, _⟩ := hro.ids.form
   obtain ⟨R2, p2, rfl, _⟩ := hro.l.form
   have hrd : RVal (fun y => w.heap.size + 1 + 1 + 1 + 1 + 1 ≤ y ∨ (S' y ∧ y < w.heap.size)) wr [.int .i64 2, .int .i64 0, .string ⟨#[]⟩, .slice R1 (L.map (·.1)).length p1, .slice R2 (L.map (·.2)).length p2] v := by
    rw [hv2]
    exact hro.read (S := (fun y => w.heap.size + 1 + 1 + 1 + 1 + 1 ≤ y ∨ (S' y ∧ y < w.heap.size))) (fun y hy => .inl hy) (fun y hy => hy) (by rw [List.length_map]; omega) (by rw [List.length_map]; omega) 2 0 ⟨#[]⟩
   rw [← hv]
   generalize (L.map (·.1)).length = L1 at *
   generalize (L.map (·.2)).length = L2 at *
   obtain ⟨e0, e1, e2, e3, e4⟩ := zG.five
   obtain ⟨r0, r1, r2, r3, r4⟩ := zR.five
   have g0 := zR.frozen 0
   have g1 := zR.frozen 1
   have g2 := zR.frozen 2
   have g3 := zR.frozen 3
   have g4 := zR.frozen 4
   have hlr := zR.lt
   have Hv := Lib.hid hv
   have Hrd := Lib.hid hrd
   clear hv hrd hro hall hle hL hv2 zV zB
   go_wp2_with fail
   change bodyPost _ _ _ _ _ (setCells wr (w.heap.size + 1 + 1 + 1) 0 [.int .i64 2, .int .i64 0, .string ⟨#[]⟩, .slice R1 L1 p1, .slice R2 L2 p2])
   have hb5 := zR.setCells [.int .i64 2, .int .i64 0, .string ⟨#[]⟩, .slice R1 L1 p1, .slice R2 L2 p2] rfl
   have hw5 := below_setCells (g := w.heap.size + 1 + 1 + 1) (by go_light; omega) [.int .i64 2, .int .i64 0, .string ⟨#[]⟩, .slice R1 L1 p1, .slice R2 L2 p2] 0 _ hb
   have hrd2 : RVal (Un S' w) (setCells wr (w.heap.size + 1 + 1 + 1) 0 [.int .i64 2, .int .i64 0, .string ⟨#[]⟩, .slice R1 L1 p1, .slice R2 L2 p2]) [.int .i64 2, .int .i64 0, .string ⟨#[]⟩, .slice R1 L1 p1, .slice R2 L2 p2] v :=
    RVal.fair.mono (RVal.fair.keep Hrd.out (Keep.setCells (by rintro (h | h) <;> omega) _ _ _)) (fun y hy _ => hy.elim (fun h => .inr (by go_light; omega)) (fun h => .inl h.1))
   generalize setCells wr (w.heap.size + 1 + 1 + 1) 0 _ = W at hb5 hw5 hrd2 ⊢
   exact bodyPost_ret (filled_results hb5 rfl) rfl ⟨_, rfl, by rw [← Hv.out]; exact hrd2, hw5⟩
end Go.Proofs.YtfidfakcbjoilaaDoor
