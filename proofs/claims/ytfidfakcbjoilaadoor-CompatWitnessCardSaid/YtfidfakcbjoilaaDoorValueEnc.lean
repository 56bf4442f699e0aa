/- The walks of value.encode and value.Encode. -/
import Derived.Test.YtfidfakcbjoilaaDoorValueTyped
import Derived.Test.YtfidfakcbjoilaaDoorWires
set_option linter.all false
set_option maxRecDepth 100000
set_option maxHeartbeats 8000000
namespace Go.Proofs.YtfidfakcbjoilaaDoor
open Go.RowKit
attribute [local go_sem ↓] Go.wp_at_zero Go.wp_at_succ
mutual
def lenV : ValueD → Prop
 | .mk _ _ _ ids l => ids.length = l.length ∧ lenL l
def lenL : List ValueD → Prop
 | [] => True
 | x :: l => (x.kind = 2 → lenV x) ∧ lenL l
end
theorem lenL_mem : ∀ {l : List ValueD} {x : ValueD}, lenL l → x ∈ l → x.kind = 2 → lenV x
 | [], _, _, h, _ => by cases h
 | y :: l, x, hl, h, h2 => by
  rw [lenL] at hl
  rcases List.mem_cons.1 h with rfl | h
  ·exact hl.1 h2
  ·exact lenL_mem hl.2 h h2
theorem lenL_of : ∀ {l : List ValueD}, (∀ x ∈ l, x.kind = 2 → lenV x) → lenL l
 | [], _ => trivial
 | x :: l, h => by rw [lenL]; exact ⟨h x (by simp), lenL_of fun y hy => h y (by simp [hy])⟩
theorem typed_len {b : BookD} (hg : goodF b = 0) : ∀ (d : Nat) (v : ValueD) (t : TypeD), depthV v ≤ d → MessageP b t → typedF b t v = 0 → lenV v
 | 0, .mk _ _ _ _ _, _, hd, _, _ => by rw [depthV] at hd; omega
 | d + 1, .mk kind n s ids l, t, hd, hm, ht => by
  obtain ⟨a1, a2, a3, a4, a5, a6, a7, a8⟩ := (typedF_iff b t _).1 ht
  simp only [ValueD.kind, ValueD.ids, ValueD.l, ValueD.n, ValueD.s] at a1 a2 a3 a4 a5 a6 a7 a8
  rw [depthV] at hd
  rw [lenV]
  refine ⟨a2, lenL_of fun x hx hx2 => ?_⟩
  obtain ⟨i, hi, rfl⟩ := List.getElem_of_mem hx
  have hz : (ids[i]'(by omega), l[i]) ∈ ids.zip l := List.mem_iff_getElem.2 ⟨i, by simp; omega, by simp⟩
  have hfit := a7 _ hz
  obtain ⟨f, hff⟩ := Option.isSome_iff_exists.1 (a5 (ids[i]'(by omega)) (List.getElem_mem _))
  unfold FitP at hfit
  simp only [hff, Option.getD_some] at hfit
  have hf := msg_field hm (fieldOf_some hff).1
  have h5 : f.kind = 5 := by
   have := (fits_kind hfit.1).1
   rw [hx2] at this
   unfold kindOf at this
   split at this
   ·simp at this
   ·split at this
    ·assumption
    ·simp at this
  obtain ⟨t2, _, h2, _, _, _, hm2⟩ := field_msg hg hf h5
  have := depthL_mem' hx
  exact typed_len hg d l[i] t2 (by omega) hm2 (h2 ▸ hfit.2 h5)
def EncPost (w : World) (r : List UInt8 × Int) (e : Ending) (w' : World) : Prop := Pair w (.string ⟨r.1.toArray⟩) (.int .i64 r.2) e w'
theorem partsGo_step {ids : List Int} {l : List ValueD} {k : Nat} (hk : k < l.length) (hl : ids.length = l.length) (acc : List Part) :
  partsGo (ids.drop k) (l.drop k) acc = if l[k].kind = 2 ∧ (encV l[k]).2 ≠ 0 then ([], (encV l[k]).2) else partsGo (ids.drop (k + 1)) (l.drop (k + 1)) (acc ++ [partOf (ids[k]'(by omega)) l[k] (encV l[k]).1]) := by
 have h1 : ids.drop k = (ids[k]'(by omega)) :: ids.drop (k + 1) := List.drop_eq_getElem_cons (by omega)
 have h2 : l.drop k = l[k] :: l.drop (k + 1) := List.drop_eq_getElem_cons hk
 rw [h1, h2, partsGo]
theorem encL_len {l : List Part} {r : List UInt8} (h : encL l [] = (r, 0)) : r.length ≤ 20000 := by
 obtain ⟨e1, _, e3⟩ := encL_ok l [] r h
 by_cases hl : l = []
 ·subst hl; rw [e1]; simp
 ·exact e3 hl
theorem encV_len : ∀ (v : ValueD), (encV v).2 = 0 → (encV v).1.length ≤ 20000
 | .mk k n s ids l, h => by
  rw [encV] at h ⊢
  by_cases h1 : (partsGo ids l []).2 ≠ 0
  ·rw [if_pos h1] at h; exact absurd h h1
  ·rw [if_neg h1] at h ⊢
   exact encL_len (by rw [← h])
theorem Lies.newAt {w : World} {g : Nat} {cs : List Value} {e : TypeId} (h : g = w.heap.size) : Lies (w.alloc (.cells cs.toArray e)) g 0 cs := h ▸ Lies.new w cs e
theorem vencode_any (S : Nat → Prop) : ∀ (d : Nat) (cs : List Value) (v : ValueD) (w : World), depthV v ≤ d → RVal S w cs v → okV v → lenV v →
  Calls Tryd.prog 27 #[.agg cs.toArray] w (EncPost w (encV v))
 | 0, _, .mk _ _ _ _ _, _, hd, _, _, _ => by rw [depthV] at hd; omega
 | d + 1, cs, .mk kind n s ids l, w, hd, hr, hok, hlen => by
  obtain ⟨I1, d1, I2, d2, rfl, hri, hrl⟩ := hr.parts
  obtain ⟨_, _, _, hic, hib⟩ := hri.form
  obtain ⟨_, _, _, hlc2, hlb2⟩ := hrl.form
  rw [depthV] at hd
  rw [okV] at hok
  rw [lenV] at hlen
  have IH := Lib.hid (vencode_any S d)
  have HI := Lib.hid hri
  have HL := Lib.hid hrl
  have Hll := Lib.hid hlen.1
  have HN := Lib.hid (fun x (hx : x ∈ l) => lenL_mem hlen.2 hx)
  have HD := Lib.hid (fun x (hx : x ∈ l) => (show depthV x ≤ d from by have := depthL_mem' hx; omega))
  have HO := Lib.hid (fun x (hx : x ∈ l) => okL_mem hok.2 hx)
  have Hres : Hid (encV (.mk kind n s ids l) = if (partsGo ids l []).2 ≠ 0 then ([], (partsGo ids l []).2) else encL (partsGo ids l []).1 []) := by show _ = _; rw [encV]
  obtain ⟨x1, x2⟩ := boxes1 w [.int .i64 kind, .int .i64 n, .string s, .slice I1 ids.length d1, .slice I2 l.length d2] 28
  clear hr hri hrl hd hok hlen
  go_enter Tryd.func27, Tryd.ntmps27
  go_wp2_with fail
  go_loopw [4, 12] (fun v i wr => ∃ (k : Nat) (acc : List Part), i = .int .i64 k ∧ k ≤ l.length ∧ Hid (partsGo (ids.drop k) (l.drop k) acc = partsGo ids l []) ∧ acc.length = k ∧ Hid (∀ p ∈ acc, p.s.size ≤ maxLen) ∧
   Own (w.heap.size + 1) 92 4 RPart NoT wr v acc ∧ Box wr w.heap.size 28 [.int .i64 kind, .int .i64 n, .string s, .slice I1 ids.length d1, .slice I2 l.length d2] ∧ Below w.heap.size w wr) (fun _ i _ => l.length - (intOf i).toNat)
  case atStart => exact ⟨0, [], rfl, by omega, rfl, rfl, (show ∀ p ∈ ([] : List Part), p.s.size ≤ maxLen from fun p hp => by cases hp), Own.nil_ _ _ _ _ _ _, x1, x2⟩
  case round =>
   obtain ⟨k, acc, rfl, hk, he, hac, hps, hor0, hbv, hb⟩ := hrel
   clear x1 x2
   have hor := hor0
   obtain ⟨R0, p0, rfl, _⟩ := hor0.form
   have Hac := Lib.hid hac
   clear hor0 hac
   by_cases hlt : k < l.length
   ·have hki : k < ids.length := by have := Hll.out; omega
    obtain ⟨ig, io, rfl, hSi, hgi⟩ := HI.out.base (by omega)
    obtain ⟨lg, lo, rfl, hSl, hlgw⟩ := HL.out.base (by omega)
    have hci := (HI.out.flat (enc := fun x : Int => [.int .i64 x]) hki).keep (Keep.of_below hb) hSi
    obtain ⟨es, _, hrx, hlies⟩ := HL.out.lies hlt
    have hst := partsGo_step hlt Hll.out acc
    have hdx := HD.out l[k] (List.getElem_mem hlt)
    have hox := HO.out l[k] (List.getElem_mem hlt)
    have hnx := HN.out l[k] (List.getElem_mem hlt)
    obtain ⟨id, hid⟩ : ∃ id, id = ids[k] := ⟨_, rfl⟩
    obtain ⟨x, hx⟩ : ∃ x, x = l[k] := ⟨_, rfl⟩
    rw [← hid] at hci hst
    rw [← hx] at hrx hst hdx hox hnx
    rw [he.out] at hst
    obtain ⟨xk, xn, xs, xi, xl⟩ := x
    obtain ⟨E1, f1, E2, f2, rfl, _, _⟩ := hrx.parts
    have hcl := hlies.keep (Keep.of_below hb) hSl
    have p0 : wr.cell? ⟨ig, io + k, none⟩ = some (.int .i64 id) := by have := hci.at_ 0 rfl; simpa using this
    have q0 : wr.cell? ⟨lg, lo + k * 5, none⟩ = some (.int .i64 xk) := hcl.at_ 0 rfl
    have q1 : wr.cell? ⟨lg, lo + k * 5 + 1, none⟩ = some (.int .i64 xn) := hcl.at_ 1 rfl
    have q2 : wr.cell? ⟨lg, lo + k * 5 + 2, none⟩ = some (.string xs) := hcl.at_ 2 rfl
    have q3 : wr.cell? ⟨lg, lo + k * 5 + 3, none⟩ = some (.slice E1 xi.length f1) := hcl.at_ 3 rfl
    have q4 : wr.cell? ⟨lg, lo + k * 5 + 4, none⟩ = some (.slice E2 xl.length f2) := hcl.at_ 4 rfl
    have hlgl : lg < wr.heap.size := Nat.lt_of_lt_of_le hlgw hb.size
    have hgil : ig < wr.heap.size := Nat.lt_of_lt_of_le hgi hb.size
    have hos : xs.size ≤ 140737488351232 := by rw [okV] at hox; exact hox.1
    have hwa := hb.alloc hb.size (.cells #[.int .i64 xk, .int .i64 xn, .string xs, .slice E1 xi.length f1, .slice E2 xl.length f2] 28)
    have Hrx := Lib.hid (RVal.fair.keep hrx (Keep.of_below hwa))
    have Hst := Lib.hid hst
    have HDx := Lib.hid hdx
    have HOx := Lib.hid hox
    have HNx := Lib.hid hnx
    clear hci hrx hst hdx hox hnx hid hx hlies hcl he
    have hbva := hbv.alloc (.cells #[.int .i64 xk, .int .i64 xn, .string xs, .slice E1 xi.length f1, .slice E2 xl.length f2] 28)
    have hora := hor.alloc RPart.fair (.cells #[.int .i64 xk, .int .i64 xn, .string xs, .slice E1 xi.length f1, .slice E2 xl.length f2] 28)
    have hxa : Box (wr.alloc (.cells #[.int .i64 xk, .int .i64 xn, .string xs, .slice E1 xi.length f1, .slice E2 xl.length f2] 28)) wr.heap.size 28 [.int .i64 xk, .int .i64 xn, .string xs, .slice E1 xi.length f1, .slice E2 xl.length f2] := Box.new wr _ _
    have p0a : (wr.alloc (.cells #[.int .i64 xk, .int .i64 xn, .string xs, .slice E1 xi.length f1, .slice E2 xl.length f2] 28)).cell? ⟨ig, io + k, none⟩ = some (.int .i64 id) := by rw [World.cell?_of_block (w := wr) (Below.heap_alloc wr _ ig hgil)]; exact p0
    go_wp2_with fail
    generalize hW : wr.alloc (.cells #[.int .i64 xk, .int .i64 xn, .string xs, .slice E1 xi.length f1, .slice E2 xl.length f2] 28) = W at *
    generalize hXX : wr.heap.size = X at *
    clear hW hXX q0 q1 q2 q3 q4 p0 hbv hor
    have hgiW : ig < W.heap.size := by have := hwa.size; omega
    have HSK : Hid (∀ W', Box W' w.heap.size 28 [.int .i64 kind, .int .i64 n, .string s, .slice (some ⟨ig, io, none⟩) ids.length d1, .slice (some ⟨lg, lo, none⟩) l.length d2] → Box W' X 28 [.int .i64 xk, .int .i64 xn, .string xs, .slice E1 xi.length f1, .slice E2 xl.length f2] → W'.cell? ⟨ig, io + k, none⟩ = some (.int .i64 id) →
      W'.cell? ⟨w.heap.size, 3, none⟩ = some (.slice (some ⟨ig, io, none⟩) ids.length d1) ∧ W'.cell? ⟨ig, io + k, none⟩ = some (.int .i64 id) ∧ W'.cell? ⟨X, 0, none⟩ = some (.int .i64 xk) ∧ W'.cell? ⟨X, 1, none⟩ = some (.int .i64 xn) ∧ W'.cell? ⟨X, 2, none⟩ = some (.string xs)) :=
     fun W' h1 h2 h3 => ⟨h1.cell 3, h3, h2.cell 0, h2.cell 1, h2.cell 2⟩
    have hS := HSK.out W.drew hbva.drew hxa.drew p0a
    refine late_start (lt := 13) (hm := by kernel_rfl) (h := ?_) (S := fun W' => W'.cell? ⟨w.heap.size, 3, none⟩ = some (.slice (some ⟨ig, io, none⟩) ids.length d1) ∧ W'.cell? ⟨ig, io + k, none⟩ = some (.int .i64 id) ∧ W'.cell? ⟨X, 0, none⟩ = some (.int .i64 xk) ∧ W'.cell? ⟨X, 1, none⟩ = some (.int .i64 xn) ∧ W'.cell? ⟨X, 2, none⟩ = some (.string xs))
    refine tkL 0 hS ?_
    try simp only [pu]
    refine tkL 1 hS ?_
    try simp only [pu]
    refine tkL 2 hS ?_
    try simp only [pu]
    refine tkL 3 hS ?_
    try simp only [pu]
    refine tkL 4 hS ?_
    try simp only [pu]
    refine tkL 5 hS ?_
    try simp only [pu]
    refine tkL 6 hS ?_
    try simp only [pu]
    refine tkL 7 hS ?_
    try simp only [pu]
    refine tkL 8 hS ?_
    try simp only [pu]
    refine tkL 9 hS ?_
    try simp only [pu]
    refine tkL 10 hS ?_
    try simp only [pu]
    refine tkL 11 hS ?_
    try simp only [pu]
    refine late_one (i := 12) rfl (by kernel_rfl) (fun K hK => ?_)
    go_simp
    have hpx : Box (W.alloc (.cells #[.int .i64 0, .int .i64 0, .int .i64 0, .string ⟨#[]⟩] 92)).drew W.heap.size 92 [.int .i64 0, .int .i64 0, .int .i64 0, .string ⟨#[]⟩] := (Box.new W _ _).drew
    have hS := HSK.out (W.alloc (.cells #[.int .i64 0, .int .i64 0, .int .i64 0, .string ⟨#[]⟩] 92)).drew (hbva.alloc _).drew (hxa.alloc _).drew (by
     have : (W.alloc (.cells #[.int .i64 0, .int .i64 0, .int .i64 0, .string ⟨#[]⟩] 92)).drew.cell? ⟨ig, io + k, none⟩ = W.cell? ⟨ig, io + k, none⟩ := World.cell?_of_block (Below.heap_alloc W _ ig hgiW)
     rw [this]; exact p0a)
    refine hK.out _ _ (fun _ => hS) ?_
    clear hK K
    try simp only [pu]
    refine late_one (i := 13) rfl (by kernel_rfl) (fun K hK => ?_)
    go_simp
    refine hK.out _ _ (fun h => absurd h (by decide)) ?_
    clear hK K
    try simp only [pu]
    refine late_done (by kernel_rfl) ?_ _
    have hpy : Box (W.alloc (.cells #[.int .i64 id, .int .i64 xk, .int .i64 xn, .string xs] 92)).drew W.heap.size 92 [.int .i64 id, .int .i64 xk, .int .i64 xn, .string xs] := (Box.new W _ _).drew
    have hwy := below_drew (hwa.alloc hwa.size (.cells #[.int .i64 id, .int .i64 xk, .int .i64 xn, .string xs] 92))
    have hxy := (hxa.alloc (.cells #[.int .i64 id, .int .i64 xk, .int .i64 xn, .string xs] 92)).drew
    have hby := (hbva.alloc (.cells #[.int .i64 id, .int .i64 xk, .int .i64 xn, .string xs] 92)).drew
    have hoy := (hora.alloc RPart.fair (.cells #[.int .i64 id, .int .i64 xk, .int .i64 xn, .string xs] 92)).drew RPart.fair
    have Hry := Lib.hid (RVal.fair.keep (RVal.fair.keep Hrx.out (Keep.alloc S W (.cells #[.int .i64 id, .int .i64 xk, .int .i64 xn, .string xs] 92))) (Keep.drew S _))
    have hXW : X < W.heap.size := hxa.lt
    have hwP : w.heap.size ≤ W.heap.size := hwa.size
    have hwP2 : w.heap.size < W.heap.size := hbva.lt
    have hnP : (Value.slice R0 acc.length p0).ownBlock ≠ some W.heap.size := fun e => by have := (hora.lt e).2; omega
    clear hS hpx hxa hbva hora p0a
    generalize hV : (W.alloc (.cells #[.int .i64 id, .int .i64 xk, .int .i64 xn, .string xs] 92)).drew = V at *
    generalize hPP : W.heap.size = P at *
    clear hV hPP
    obtain ⟨y0, y1, y2, y3, y4⟩ := hxy.five
    have hlx := hxy.lt
    have hlp := hpy.lt
    by_cases hk2 : xk = 2
    ·subst hk2
     obtain ⟨r, hr⟩ : ∃ r, r = encV (.mk 2 xn xs xi xl) := ⟨_, rfl⟩
     have hcall := fun W (h : RVal S W [.int .i64 2, .int .i64 xn, .string xs, .slice E1 xi.length f1, .slice E2 xl.length f2] (.mk 2 xn xs xi xl)) => IH.out [.int .i64 2, .int .i64 xn, .string xs, .slice E1 xi.length f1, .slice E2 xl.length f2] (.mk 2 xn xs xi xl) W HDx.out h HOx.out (HNx.out rfl)
     rw [← hr] at hcall Hst
     have Hcall := Lib.hid hcall
     have Hrl := Lib.hid (show r.2 = 0 → r.1.length ≤ 20000 from by rw [hr]; exact encV_len _)
     have Hst2 : Hid (partsGo ids l [] = if r.2 ≠ 0 then ([], r.2) else partsGo (ids.drop (k + 1)) (l.drop (k + 1)) (acc ++ [⟨id, 2, xn, ⟨r.1.toArray⟩⟩])) := by
      show _ = _
      rw [Hst.out]
      simp only [ValueD.kind, partOf, ValueD.n, true_and, if_true]
     clear hcall hr Hst
     go_wp2_with fail
     refine (Hcall.out _ Hry.out).mono ?_
     rintro e w3 ⟨rfl, hb3⟩
     obtain ⟨rb, rc⟩ := r
     dsimp only at Hst2 ⊢
     have hw3 := below_via hwy hb3 hwy.size
     have hp3 := hpy.below hb3 hpy.lt
     have hb3v := hby.below hb3 hby.lt
     have ho3 := hoy.below RPart.fair hb3
     have f3 := hp3.frozen 3
     have c3 := hp3.cell 3
     have hl3 := hp3.lt
     simp only [List.getElem?_cons_zero, List.getElem?_cons_succ] at c3
     have hw4 := hw3.setCell (p := ⟨P, 3, none⟩) (by simpa using hwP) (.string ⟨rb.toArray⟩)
     have hp4 := hp3.set_ 3 (.string ⟨rb.toArray⟩)
     have hb4v := hb3v.far (p := ⟨P, 3, none⟩) (by simp; omega) (.string ⟨rb.toArray⟩)
     have ho4 := ho3.setCell RPart.fair (p := ⟨P, 3, none⟩) (.string ⟨rb.toArray⟩) hnP (fun h => h.elim)
     simp only [List.set_cons_zero, List.set_cons_succ] at hp4
     clear hb3 y0 y1 y2 y3 y4
     by_cases hrc : rc = 0
     ·subst hrc
      have Hst3 : Hid (partsGo (ids.drop (k + 1)) (l.drop (k + 1)) (acc ++ [⟨id, 2, xn, ⟨rb.toArray⟩⟩]) = partsGo ids l []) := by
       show _ = _
       rw [Hst2.out, if_neg (by simp)]
      have hrl : rb.length ≤ 20000 := Hrl.out rfl
      obtain ⟨z0, z1, z2, z3⟩ : (w3.setCell ⟨P, 3, none⟩ (.string ⟨rb.toArray⟩)).cell? ⟨P, 0, none⟩ = some (.int .i64 id) ∧ (w3.setCell ⟨P, 3, none⟩ (.string ⟨rb.toArray⟩)).cell? ⟨P, 1, none⟩ = some (.int .i64 2) ∧ (w3.setCell ⟨P, 3, none⟩ (.string ⟨rb.toArray⟩)).cell? ⟨P, 2, none⟩ = some (.int .i64 xn) ∧ (w3.setCell ⟨P, 3, none⟩ (.string ⟨rb.toArray⟩)).cell? ⟨P, 3, none⟩ = some (.string ⟨rb.toArray⟩) := ⟨hp4.cell 0, hp4.cell 1, hp4.cell 2, hp4.cell 3⟩
      clear Hst2 Hrl
      go_wp2_with (at_builtin; go_must (refine wl_append _ rfl (.tmp 41) (.tmp 43) rfl sl_parts RPart.fair rfl rfl (ho4.alloc RPart.fair _) (Src.one (es := [.int .i64 id, .int .i64 2, .int .i64 xn, .string ⟨rb.toArray⟩]) (y := Part.mk id 2 xn ⟨rb.toArray⟩) rfl (Ones.of_all rfl) rfl (Lies.newAt (by first | rfl | simp [World.setCell]))) (NoT.lt _) ?_ ?_ ?_))
      ·simp; have := Hac.out; omega
      ·have := hw4.size; simp at this ⊢; omega
      intro v5 w5 ho5 hg5 hv5
      have hw5 := below_grown (hw4.alloc hw4.size (.cells #[.int .i64 id, .int .i64 2, .int .i64 xn, .string ⟨rb.toArray⟩] 92)) hg5 (by have := hw4.size; simp at this ⊢; omega) (fun g' h => by have := (ho4.lt h).1; omega)
      have hb5 := (hb4v.alloc (.cells #[.int .i64 id, .int .i64 2, .int .i64 xn, .string ⟨rb.toArray⟩] 92)).grown hg5 (fun e => by have := (ho4.lt e).1; omega)
      have Hps2 : Hid (∀ p ∈ acc ++ [⟨id, 2, xn, ⟨rb.toArray⟩⟩], p.s.size ≤ maxLen) := by
       show ∀ p ∈ acc ++ [⟨id, 2, xn, ⟨rb.toArray⟩⟩], p.s.size ≤ maxLen
       intro p hp
       rcases List.mem_append.1 hp with hp | hp
       ·exact hps.out p hp
       ·simp at hp; subst hp
        show rb.length ≤ maxLen
        unfold maxLen; omega
      go_wp2_with fail
      go_roundw
      case rel => exact ⟨k + 1, acc ++ [⟨id, 2, xn, ⟨rb.toArray⟩⟩], by go_num, by omega, Hst3, by rw [List.length_append, Hac.out]; rfl, Hps2, ho5, hb5, hw5⟩
      case measure => simp [intOf]; omega
     ·have hcb : (rc != 0) = true := by simpa using hrc
      have Hno : Hid (encV (.mk kind n s ids l) = ([], rc)) := by
       show _ = _
       rw [Hres.out, Hst2.out, if_pos hrc]
       simp [hrc]
      clear hrc
      go_wp2_with fail
      go_ret2
      rw [Hno.out]
      exact ⟨rfl, hw4⟩
    ·have hkb : (xk == 2) = false := by simpa using hk2
     have Hst3 : Hid (partsGo (ids.drop (k + 1)) (l.drop (k + 1)) (acc ++ [⟨id, xk, xn, xs⟩]) = partsGo ids l []) := by
      show _ = _
      rw [Hst.out]
      simp only [ValueD.kind, partOf, ValueD.n, ValueD.s, hk2, false_and, if_false]
     obtain ⟨z0, z1, z2, z3⟩ : V.cell? ⟨P, 0, none⟩ = some (.int .i64 id) ∧ V.cell? ⟨P, 1, none⟩ = some (.int .i64 xk) ∧ V.cell? ⟨P, 2, none⟩ = some (.int .i64 xn) ∧ V.cell? ⟨P, 3, none⟩ = some (.string xs) := ⟨hpy.cell 0, hpy.cell 1, hpy.cell 2, hpy.cell 3⟩
     clear Hst hk2
     go_wp2_with (at_builtin; go_must (refine wl_append _ rfl (.tmp 41) (.tmp 43) rfl sl_parts RPart.fair rfl rfl (hoy.alloc RPart.fair _) (Src.one (es := [.int .i64 id, .int .i64 xk, .int .i64 xn, .string xs]) (y := Part.mk id xk xn xs) rfl (Ones.of_all rfl) rfl (Lies.newAt (by first | rfl | simp [World.setCell]))) (NoT.lt _) ?_ ?_ ?_))
     ·simp; have := Hac.out; omega
     ·have := hwy.size; simp; omega
     intro v5 w5 ho5 hg5 hv5
     have hw5 := below_grown (hwy.alloc hwy.size (.cells #[.int .i64 id, .int .i64 xk, .int .i64 xn, .string xs] 92)) hg5 (by have := hwy.size; simp; omega) (fun g' h => by have := (hoy.lt h).1; omega)
     have hb5 := (hby.alloc (.cells #[.int .i64 id, .int .i64 xk, .int .i64 xn, .string xs] 92)).grown hg5 (fun e => by have := (hoy.lt e).1; omega)
     have Hps2 : Hid (∀ p ∈ acc ++ [⟨id, xk, xn, xs⟩], p.s.size ≤ maxLen) := by
      show ∀ p ∈ acc ++ [⟨id, xk, xn, xs⟩], p.s.size ≤ maxLen
      intro p hp
      rcases List.mem_append.1 hp with hp | hp
      ·exact hps.out p hp
      ·simp at hp; subst hp
       show xs.size ≤ maxLen
       unfold maxLen; omega
     go_wp2_with fail
     go_roundw
     case rel => exact ⟨k + 1, acc ++ [⟨id, xk, xn, xs⟩], by go_num, by omega, Hst3, by rw [List.length_append, Hac.out]; rfl, Hps2, ho5, hb5, hw5⟩
     case measure => simp [intOf]; omega
   ·have hdl : l.drop k = [] := List.drop_eq_nil_of_le (by omega)
    have hgo : partsGo ids l [] = (acc, 0) := by rw [← he.out, hdl, partsGo]
    have Hfin : Hid (encV (.mk kind n s ids l) = encL acc []) := by show _ = _; rw [Hres.out, hgo]; simp
    have hacl : acc.length * 40 ≤ 140737488351232 := by have := Hac.out; omega
    have HRd := Lib.hid (hor.read (S := fun _ => True) (by_ := 40) RPart.fair (fun _ _ _ => trivial) (fun _ _ => trivial) hacl)
    clear hdl hgo he
    go_wp2_with fail
    refine (encode_any _ _ acc _ HRd.out hps.out).mono ?_
    rintro e w3 ⟨rfl, hb3⟩
    obtain ⟨⟨rb, rc⟩, hr⟩ : ∃ r, r = encL acc [] := ⟨_, rfl⟩
    rw [← hr]
    have Hr := Lib.hid hr
    clear hr
    go_wp2_with fail
    go_ret2
    rw [Hfin.out, ← Hr.out]
    exact ⟨rfl, below_via hb hb3 hb.size⟩
end Go.Proofs.YtfidfakcbjoilaaDoor
