/- The walk of the document's own valueOf. -/
import Derived.Test.YtockolmdffehnaaDoorRefRows
import Derived.Test.YtockolmdffehnaaDoorRefLeastV
import Derived.Test.YtockolmdffehnaaDoorRefSingle
import Derived.Deep.DeepCutAuto
import Derived.Deep.OwnRows
namespace Go.Proofs.YtockolmdffehnaaDoor
open Go.RowKit
attribute [local go_sem ↓] Go.wp_at_zero Go.wp_at_succ

theorem no_results {W : World} {a : Act} {g : Nat} {c0 c1 c2 c3 c4 : Value} {n : Int} (hb : Box W g 28 [c0, c1, c2, c3, c4]) (h4 : a.tmps.getD 2 undef = .pointer (some ⟨g, 0, none⟩)) (h5 : a.tmps.getD 3 undef = .int .i64 n) :
    (results Tryd.f52 a.tmps).run Tryd.prog W = .ok (.tuple #[.agg #[c0, c1, c2, c3, c4], .int .i64 n]) W := by
  obtain ⟨e0, e1, e2, e3, e4⟩ := hb.five
  simp only [Array.getD_eq_getD_getElem?] at h4 h5
  simp [results, Tryd.results52, go_sem, h4, h5, e0, e1, e2, e3, e4]
theorem valueOf_results {W : World} {a : Act} {g : Nat} {c0 c1 c2 c3 c4 : Value} {n : Int} (hb : Box W g 28 [c0, c1, c2, c3, c4]) (h4 : a.tmps.getD 8 undef = .pointer (some ⟨g, 0, none⟩)) (h5 : a.tmps.getD 9 undef = .int .i64 n) :
    (results Tryd.f30 a.tmps).run Tryd.prog W = .ok (.tuple #[.agg #[c0, c1, c2, c3, c4], .int .i64 n]) W := by
  obtain ⟨e0, e1, e2, e3, e4⟩ := hb.five
  simp only [Array.getD_eq_getD_getElem?] at h4 h5
  simp [results, Tryd.results30, go_sem, h4, h5, e0, e1, e2, e3, e4]
/-- No value, and a code. -/
def NoPost (w : World) (n : Int) (e : Ending) (w' : World) : Prop := e = .returned (.tuple #[.agg #[.int .i64 0, .int .i64 0, .string ⟨#[]⟩, .slice none 0 0, .slice none 0 0], .int .i64 n]) ∧ Below w.heap.size w w'
set_option maxRecDepth 100000 in
set_option maxHeartbeats 1000000 in
theorem no_any (n : Int) (w : World) : Calls Tryd.prog 52 #[.int .i64 n] w (NoPost w n) := by
  obtain ⟨x1, x2⟩ := boxes1 w [.int .i64 0, .int .i64 0, .string ⟨#[]⟩, .slice none 0 0, .slice none 0 0] 28
  go_enter Tryd.func52, Tryd.ntmps52
  go_wp2_with fail
  exact bodyPost_ret (no_results x1 rfl rfl) rfl ⟨rfl, x2⟩

/-- What is far from a block that is written. -/
theorem cell_far {w : World} {g j r i : Nat} {u : Value} (h : r ≠ g) : (w.setCell ⟨g, j, none⟩ u).cell? ⟨r, i, none⟩ = w.cell? ⟨r, i, none⟩ := by
  simp only [World.cell?, Below.heap_setCell w ⟨g, j, none⟩ u r h]
theorem frozen_far {w : World} {g j r i : Nat} {u : Value} (h : r ≠ g) : (w.setCell ⟨g, j, none⟩ u).frozen? ⟨r, i, none⟩ = w.frozen? ⟨r, i, none⟩ := by
  simp only [World.frozen?, Below.heap_setCell w ⟨g, j, none⟩ u r h]
theorem fieldIn_outV (S : Nat → Prop) (cs : List Value) (t : TypeD) (id : Int) (w : World) (ht : RType S w cs t) :
    Calls Tryd.prog 38 #[.agg cs.toArray, .int .i64 id] w (FieldOfPost w (fieldOf t id)) :=
  (fieldIn_any S cs t id w ht).mono fun _ _ ⟨he, hb⟩ => ⟨_, rfl, he, hb⟩
def ValueOfAt (vb : Value) (b : BookD) (k : Nat) : Prop := ∀ (S : Nat → Prop) (name s : ByteArray) (w : World), RSl 5 96 RType S w [vb] b → noneB b name = false → s.size ≤ maxLen → k ≤ 24 →
  Calls Tryd.prog 30 #[.agg #[vb], .string name, .string s, .int .i64 k] w (ValCode w (decV b k (typeOf b name) (bytes s)))
set_option maxRecDepth 100000 in
set_option maxHeartbeats 4000000 in
theorem valueOf_zero (vb : Value) (b : BookD) : ValueOfAt vb b 0 := by
  intro S name s w hb0 hn hs hk
  obtain ⟨A, cap, rfl, hlc, hlb⟩ := hb0.form
  have Hno : Hid (decV b 0 (typeOf b name) (bytes s) = (.zero, 7)) := by show _ = _; rw [decV]
  obtain ⟨x1, x2, x3⟩ := boxes2 w [.slice A b.length cap] [.int .i64 0, .int .i64 0, .string ⟨#[]⟩, .slice none 0 0, .slice none 0 0] 24 28
  clear hb0 hn
  go_enter Tryd.func30, Tryd.ntmps30
  go_wp2_with fail
  refine (no_any 7 _).mono ?_
  rintro e w1 ⟨rfl, hb1⟩
  have hw1 := below_via x3 hb1 x3.size
  have y2 := x2.below hb1 x2.lt
  obtain ⟨r0, r1, r2, r3, r4⟩ := y2.five
  have g0 := y2.frozen 0
  have g1 := y2.frozen 1
  have g2 := y2.frozen 2
  have g3 := y2.frozen 3
  have g4 := y2.frozen 4
  have hlr := y2.lt
  go_wp2_with fail
  change bodyPost _ _ _ _ _ (setCells w1 (w.heap.size + 1) 0 [.int .i64 0, .int .i64 0, .string ⟨#[]⟩, .slice none 0 0, .slice none 0 0])
  rw [Hno.out]
  exact bodyPost_ret (valueOf_results (y2.setCells [.int .i64 0, .int .i64 0, .string ⟨#[]⟩, .slice none 0 0, .slice none 0 0] rfl) rfl rfl) rfl ⟨_, rfl, RVal.zero, below_setCells (g := w.heap.size + 1) (Nat.le_succ _) [.int .i64 0, .int .i64 0, .string ⟨#[]⟩, .slice none 0 0, .slice none 0 0] 0 _ hw1⟩

/-- No rows yet. -/
def rows31 : List Value := List.replicate 31 (.slice none 0 0)
theorem make31 (W : World) : (Instr.makeSlice 82 (.int .i64 31) (.int .i64 31)).run Tryd.prog W = .ok (.slice (some ⟨W.heap.size, 0, none⟩) 31 31) (W.alloc (.cells rows31.toArray 26)) := by
  have h := run_make_row' (P := Tryd.prog) 82 26 (.slice none 0 0) 24 Tryd.underlying82 (by kernel_rfl) rfl .i64 .i64 31 (by decide) (by decide) W
  have e : madeCells #[.slice none 0 0] 31 = rows31.toArray := Array.ext' (by rw [toList_madeCells_one]; rfl)
  rw [e] at h
  exact h
/-- The number that the next one may not fall below. -/
def lastN (ps : List Part) : Nat → Int
  | 0 => 0
  | k + 1 => ((ps[k]?).map (·.id)).getD 0
theorem lastN_falls {ps : List Part} {k : Nat} {id : Int} (hk : k ≤ ps.length) (h1 : 1 ≤ id) : fallsF (lastP ps k) id = decide (id < lastN ps k) := by
  cases k with
  | zero =>
    show false = decide (id < 0)
    simp; omega
  | succ k =>
    show fallsF (Option.map _ ps[k]?) id = decide (id < (Option.map _ ps[k]?).getD 0)
    rw [List.getElem?_eq_getElem (by omega)]; rfl
theorem lastN_succ {ps : List Part} {k : Nat} (h : k < ps.length) : lastN ps (k + 1) = ps[k].id := by
  show (Option.map _ ps[k]?).getD 0 = _
  rw [List.getElem?_eq_getElem h]; rfl
theorem decF_good {s : List UInt8} {l : List Part} (h : decF s = (l, 0)) : ∀ p ∈ l, 1 ≤ p.id ∧ p.id ≤ 30 := by
  unfold decF at h
  split at h
  · cases h
  · obtain ⟨l', e, _, hg⟩ := decL_only _ _ _ _ h (Nat.le_refl _)
    rw [List.nil_append] at e
    subst e
    exact fun p hp => ⟨(good_bounds (hg p hp)).1, (good_bounds (hg p hp)).2.1⟩
/-- The values of a number, so far. -/
def rowL (ai : List Int) (al : List ValueD) (j : Nat) : List ValueD := ((ai.zip al).filter (fun p => decide (p.1 = (j : Int)))).map (·.2)
theorem rowL_push {ai : List Int} {al : List ValueD} (h : ai.length = al.length) (j : Nat) (x : ValueD) (i : Nat) : rowL (ai ++ [(j : Int)]) (al ++ [x]) i = if i = j then rowL ai al j ++ [x] else rowL ai al i := by
  unfold rowL
  rw [List.zip_append h, List.filter_append, List.map_append]
  by_cases e : i = j
  · subst e; simp
  · have e2 : ¬ (j : Int) = (i : Int) := fun h => e (by omega)
    simp [e, e2]
theorem rowL_has {ai : List Int} {al : List ValueD} (h : ai.length = al.length) (j : Nat) : hasI ai (j : Int) = decide (0 < (rowL ai al j).length) := by
  unfold rowL hasI
  induction ai generalizing al with
  | nil => simp
  | cons a ai ih =>
    cases al with
    | nil => simp at h
    | cons v al =>
      have := ih (al := al) (by simpa using h)
      rw [List.any_cons, this, List.zip_cons_cons, List.filter_cons]
      by_cases e : a = (j : Int)
      · simp [e]
      · simp [e]
theorem rowL_len (ai : List Int) (al : List ValueD) (j : Nat) : (rowL ai al j).length ≤ ai.length := by
  unfold rowL
  rw [List.length_map]
  refine Nat.le_trans (List.length_filter_le _ _) ?_
  rw [List.length_zip]; omega

theorem own_len (R : Option Addr) (n m c : Nat) : (Value.slice R n c).ownBlock = (Value.slice R m c).ownBlock := by cases R <;> rfl
theorem cell_beside {w : World} {g i j : Nat} {u : Value} (h : i ≠ j) : (w.setCell ⟨g, i, none⟩ u).cell? ⟨g, j, none⟩ = w.cell? ⟨g, j, none⟩ := World.cell?_setCell_other _ _ _ _ (by intro e; simp only [Addr.mk.injEq] at e; omega)
/-- What is filled in for a field is its row, or the least. -/
theorem filledGo_row {b : BookD} {k : Nat} {ai : List Int} {al : List ValueD} (h : ai.length = al.length) (f : FieldD) (j : Nat) (hj : f.id = (j : Int)) :
    filledGo b k ai al f = (if f.rule = 1 ∧ (rowL ai al j).length = 0 then [leastOfF b k f] else rowL ai al j).map (fun v => ((j : Int), v)) := by
  have hz : (ai.zip al).filter (fun p => decide (p.1 = (j : Int))) = (rowL ai al j).map (fun v => ((j : Int), v)) := by
    unfold rowL
    rw [List.map_map]
    refine (List.map_id' _).symm.trans (List.map_congr_left fun x hx => ?_)
    have := (List.mem_filter.1 hx).2
    have e : x.1 = (j : Int) := by simpa using this
    show x = ((j : Int), x.2)
    rw [← e]
  unfold filledGo
  rw [hj, rowL_has h, hz]
  by_cases h0 : (rowL ai al j).length = 0
  · have hn : rowL ai al j = [] := List.eq_nil_of_length_eq_zero h0
    rw [hn]
    by_cases hr : f.rule = 1 <;> simp [hr]
  · have hp : 0 < (rowL ai al j).length := by omega
    simp [h0, hp]
set_option maxRecDepth 100000 in
set_option maxHeartbeats 8000000 in
theorem valueOf_succ (vb : Value) (b : BookD) (hg : goodF b = 0) (k : Nat) (IH0 : ValueOfAt vb b k) : ValueOfAt vb b (k + 1) := by
  intro S name s w hb0 hn hs hk
  obtain ⟨A, cap, rfl, hlc, hlb⟩ := hb0.form
  obtain ⟨t, q1, q2, q3, q4, q5⟩ := noneB_type hn
  have hm := good_msg hg q3 q5
  have HB := Lib.hid ((RSl.fair RType.fair).old hb0)
  have IH := Lib.hid (fun (S : Nat → Prop) (nm sx : ByteArray) (W : World) h1 h2 h3 => IH0 S nm sx W h1 h2 h3 (by omega))
  have HM := Lib.hid hm
  have HG := Lib.hid hg
  have HQ1 := Lib.hid q1
  rw [q2]
  obtain ⟨dF, hdF⟩ : ∃ r, r = decF (bytes s) := ⟨_, rfl⟩
  have hwd := fun W => decodeParts_any s W hs
  rw [← hdF] at hwd
  have Hwd := Lib.hid hwd
  have hgd : dF.2 = 0 → ∀ p ∈ dF.1, 1 ≤ p.id ∧ p.id ≤ 30 := fun h => decF_good (by rw [← hdF]; exact Prod.ext rfl h)
  obtain ⟨r, hr⟩ : ∃ r, r = decV b (k + 1) t (bytes s) := ⟨_, rfl⟩
  have Hr : Hid (r = if dF.2 ≠ 0 then (.zero, dF.2) else if (decGo b (decV b k) t none dF.1 [] []).2 ≠ 0 then (.zero, (decGo b (decV b k) t none dF.1 [] []).2)
      else (filledF b 4 t (decGo b (decV b k) t none dF.1 [] []).1.1 (decGo b (decV b k) t none dF.1 [] []).1.2, 0)) := by
    show _ = _
    rw [hr, decV, hdF]
  rw [← hr]
  have Hgd := Lib.hid hgd
  have e0 : ((k : Int) + 1 == 0) = false := by simp only [beq_eq_false_iff_ne, ne_eq]; go_light; omega
  obtain ⟨x1, x2, x3⟩ := boxes2 w [.slice A b.length cap] [.int .i64 0, .int .i64 0, .string ⟨#[]⟩, .slice none 0 0, .slice none 0 0] 24 28
  clear hb0 hn hm hwd hdF hr hgd hg q1 q2 q3 q4 q5 IH0 hs
  go_enter Tryd.func30, Tryd.ntmps30
  go_wp2_with fail
  refine (Hwd.out _).mono ?_
  rintro e w1 ⟨vps, rfl, hps, hb1, hpsz, hpl⟩
  obtain ⟨ps, dc⟩ := dF
  dsimp only at hps hpsz hpl Hr Hgd ⊢
  obtain ⟨PA, pcap, rfl, hpc, hpb⟩ := hps.form
  have hw1 := below_via x3 hb1 x3.size
  have y1 := x1.below hb1 x1.lt
  have y2 := x2.below hb1 x2.lt
  have HP := Lib.hid hps
  have HPs := Lib.hid hpsz
  clear x1 x2 x3 hps hpsz
  by_cases hdc : dc = 0
  · subst hdc
    rw [if_neg (by simp)] at Hr
    have Hgd2 := Lib.hid (Hgd.out rfl)
    obtain ⟨rec, hrec⟩ : ∃ rec, rec = decV b k := ⟨_, rfl⟩
    rw [← hrec] at Hr
    have Hrec := Lib.hid hrec
    obtain ⟨DG, hDG⟩ : ∃ D, D = decGo b rec t none ps [] [] := ⟨_, rfl⟩
    rw [← hDG] at Hr
    have HDG := Lib.hid hDG
    have s0 : w1.cell? ⟨w.heap.size, 0, none⟩ = some (.slice A b.length cap) := y1.cell 0
    have hl1 := y1.lt
    clear hrec hDG Hgd
    go_wp2_with fail
    refine (typeOf_any (Old w) _ b name _ ((RSl.fair RType.fair).below HB.out hw1)).mono ?_
    rintro e w2 ⟨cs3, rfl, hr3, hb2⟩
    obtain ⟨B1, l1, B2, l2, B3, l3, rfl, hrf, -, -⟩ := hr3.parts
    have hty' : (findT b name).getD TypeD.zero = t := by rw [HQ1.out]; rfl
    rw [hty'] at hr3 hrf ⊢
    obtain ⟨_, _, _, hfc, hfb⟩ := hrf.form
    obtain ⟨okt, hokt⟩ : ∃ ok, ok = (findT b name).isSome := ⟨_, rfl⟩
    rw [← hokt]
    have hw2 := (below_via hw1 hb2 hw1.size).alloc (below_via hw1 hb2 hw1.size).size (.cells #[.string t.name, .bool t.enum, .slice B1 t.fields.length l1, .slice B2 t.gone.length l2, .slice B3 t.items.length l3] 51)
    have HT := Lib.hid (RType.fair.keep hr3 (Keep.of_below (hb2.alloc hb2.size (.cells #[.string t.name, .bool t.enum, .slice B1 t.fields.length l1, .slice B2 t.gone.length l2, .slice B3 t.items.length l3] 51))))
    have HF := Lib.hid ((RSl.fair RField.fair).keep hrf (Keep.of_below (hb2.alloc hb2.size (.cells #[.string t.name, .bool t.enum, .slice B1 t.fields.length l1, .slice B2 t.gone.length l2, .slice B3 t.items.length l3] 51))))
    have HP2 := Lib.hid ((RSl.fair RPart.fair).below HP.out (hb2.alloc hb2.size (.cells #[.string t.name, .bool t.enum, .slice B1 t.fields.length l1, .slice B2 t.gone.length l2, .slice B3 t.items.length l3] 51)))
    have z1 := (y1.below hb2 y1.lt).alloc (.cells #[.string t.name, .bool t.enum, .slice B1 t.fields.length l1, .slice B2 t.gone.length l2, .slice B3 t.items.length l3] 51)
    have z2 := (y2.below hb2 y2.lt).alloc (.cells #[.string t.name, .bool t.enum, .slice B1 t.fields.length l1, .slice B2 t.gone.length l2, .slice B3 t.items.length l3] 51)
    have zt : Box (w2.alloc (.cells #[.string t.name, .bool t.enum, .slice B1 t.fields.length l1, .slice B2 t.gone.length l2, .slice B3 t.items.length l3] 51)) w2.heap.size 51 [.string t.name, .bool t.enum, .slice B1 t.fields.length l1, .slice B2 t.gone.length l2, .slice B3 t.items.length l3] := Box.new w2 _ _
    clear hr3 hrf hb2 hb1 hokt hty' s0 hl1 y1 y2 hw1 HP
    go_upto_region 8 with fail
    generalize hWq : w2.alloc (.cells #[.string t.name, .bool t.enum, .slice B1 t.fields.length l1, .slice B2 t.gone.length l2, .slice B3 t.items.length l3] 51) = W2 at *
    generalize hXq : w2.heap.size = XT at *
    clear hWq hXq w2
    have z2x := z2
    have ztx := zt
    have hmk := make31
    go_upto_region 9 with fail
    have hbW2 : Below W2.heap.size W2 (W2.alloc (.cells rows31.toArray 26)) := (Below.refl _ _).alloc (Nat.le_refl _) _
    have zG0 : Box (W2.alloc (.cells rows31.toArray 26)) W2.heap.size 26 rows31 := Box.new _ _ _
    have hGs : W2.heap.size + 1 ≤ (W2.alloc (.cells rows31.toArray 26)).heap.size := by simp
    have hw3 := hw2.alloc hw2.size (.cells rows31.toArray 26)
    replace z1 := z1.alloc (.cells rows31.toArray 26)
    replace z2 := z2.alloc (.cells rows31.toArray 26)
    replace zt := zt.alloc (.cells rows31.toArray 26)
    replace HT := Lib.hid (RType.fair.below HT.out hbW2)
    replace HF := Lib.hid ((RSl.fair RField.fair).below HF.out hbW2)
    replace HP2 := Lib.hid ((RSl.fair RPart.fair).below ((RSl.fair RPart.fair).mono HP2.out (T := fun g => g < W2.heap.size) (fun _ _ h => h)) hbW2)
    have hG1 : w.heap.size + 1 < W2.heap.size := z2x.lt
    have hGT : XT < W2.heap.size := ztx.lt
    clear hmk hbW2 hw2 z2x ztx
    generalize hWq : W2.alloc (.cells rows31.toArray 26) = W3 at *
    generalize hXq : W2.heap.size = GB at *
    clear hWq hXq
    go_wp2_with fail
    have hwG : w.heap.size ≤ GB := by go_light; omega
    go_loopg [12, 16, 56] ps.length (fun gk c12 c16 i wr => ∃ (q : Nat) (ai : List Int) (al : List ValueD) (vs : List Value) (T : Nat → Prop), c12 = .int .i64 0 ∧ c16 = .int .i64 (lastN ps q) ∧ i = .int .i64 q ∧ gk + q = ps.length ∧ Hid (decGo b rec t (lastP ps q) (ps.drop q) ai al = DG) ∧ ai.length = al.length ∧ ai.length ≤ q ∧
        RowsG (GB + 1) wr GB vs (rowL ai al) T ∧ Box wr GB 26 vs ∧ Below GB W3 wr)
    case atStart => exact ⟨0, [], [], rows31, fun _ => False, rfl, rfl, rfl, rfl, HDG.out.symm, rfl, Nat.le_refl _, RowsG.new _ _ _ (Nat.lt_succ_self _) hGs, zG0, Below.refl _ _⟩
    case round =>
      obtain ⟨q, ai, al, vs, T, rfl, rfl, rfl, hq, he, hll, hlq, hR, zG, hbG⟩ := hrel
      have Hq := Lib.hid hq
      have Hll := Lib.hid hll
      have Hlq := Lib.hid hlq
      have zB := z1.below hbG (by go_light; omega)
      have zR := z2.below hbG hG1
      have zT := zt.below hbG hGT
      have hw : Below w.heap.size w W3 := hw3
      by_cases hlt : q < ps.length
      · --[RND
        obtain ⟨pg, po, rfl, hSp, hgp⟩ := HP2.out.base (by go_light; omega)
        have KG : Keep (fun g => g < GB) W3 wr := ⟨hbG.size, fun g hg _ => hbG.block g hg⟩
        have hc := (HP2.out.flat (enc := partCells) hlt).keep KG hSp
        have hst := decGo_cons (b := b) (rec := rec) (t := t) hlt ai al
        have hpi := Hgd2.out ps[q] (List.getElem_mem hlt)
        rw [he.out, lastN_falls (Nat.le_of_lt hlt) hpi.1] at hst
        have hpz := HPs.out ps[q] (List.getElem_mem hlt)
        have hls := lastN_succ hlt
        obtain ⟨p, hp⟩ : ∃ p, p = ps[q] := ⟨_, rfl⟩
        rw [← hp] at hc hst hpz hpi hls
        obtain ⟨lv, hlv⟩ : ∃ lv, lv = lastN ps q := ⟨_, rfl⟩
        rw [← hlv] at hst ⊢
        obtain ⟨pid, pk, pn, pp⟩ := p
        dsimp only at hst hpi hls
        obtain ⟨j, rfl⟩ : ∃ j : Nat, pid = (j : Int) := ⟨pid.toNat, by go_light; omega⟩
        have hj31 : j < 31 := by go_light; omega
        have hji : (j : Int) < 31 := by go_light; omega
        have q0 : wr.cell? ⟨pg, po + q * 4, none⟩ = some (.int .i64 j) := hc.at_ 0 rfl
        have q1 : wr.cell? ⟨pg, po + q * 4 + 1, none⟩ = some (.int .i64 pk) := hc.at_ 1 rfl
        have q2 : wr.cell? ⟨pg, po + q * 4 + 2, none⟩ = some (.int .i64 pn) := hc.at_ 2 rfl
        have q3 : wr.cell? ⟨pg, po + q * 4 + 3, none⟩ = some (.string pp) := hc.at_ 3 rfl
        have hgpl : pg < wr.heap.size := Nat.lt_of_lt_of_le hgp hbG.size
        have Hpz : Hid (pp.size ≤ 20000) := hpz
        have Hls := Lib.hid hls
        have Hst := Lib.hid hst
        have hbr := (Below.refl wr.heap.size wr).alloc (Nat.le_refl _) (.cells #[.int .i64 j, .int .i64 pk, .int .i64 pn, .string pp] 70)
        have hP : Box (wr.alloc (.cells #[.int .i64 j, .int .i64 pk, .int .i64 pn, .string pp] 70)) wr.heap.size 70 [.int .i64 j, .int .i64 pk, .int .i64 pn, .string pp] := Box.new wr _ _
        obtain ⟨t0, t1, t2, t3, t4⟩ := zT.five
        have hlT := zT.lt
        have hGw : GB < wr.heap.size := zG.lt
        have HGle := Lib.hid (Nat.le_of_lt hGw)
        clear hp hlv hst hpz hls hpi hc KG hSp hgp he hq hll hlq
        by_cases hfl : (j : Int) < lv
        · have Hno : Hid (r = (.zero, 1)) := by
            show _ = _
            have h1 := Hst.out
            rw [if_pos (by simpa using hfl)] at h1
            rw [Hr.out, h1]; rfl
          have e1 : decide ((j : Int) < lv) = true := by simpa using hfl
          clear hfl Hst
          --[BAD1
          go_wp2_with fail
          refine (no_any 1 _).mono ?_
          rintro e w9 ⟨rfl, hb9⟩
          have hw9 := below_via (hw.trans ((below_via hbG hbr HGle.out).mono hwG)) hb9 (hw.trans ((below_via hbG hbr HGle.out).mono hwG)).size
          have u9 := (zR.below hbr zR.lt).below hb9 (zR.below hbr zR.lt).lt
          obtain ⟨r0, r1, r2, r3, r4⟩ := u9.five
          have g0 := u9.frozen 0
          have g1 := u9.frozen 1
          have g2 := u9.frozen 2
          have g3 := u9.frozen 3
          have g4 := u9.frozen 4
          have hlr := u9.lt
          go_wp2_with fail
          change bodyPost _ _ _ _ _ (setCells w9 (w.heap.size + 1) 0 [.int .i64 0, .int .i64 0, .string ⟨#[]⟩, .slice none 0 0, .slice none 0 0])
          rw [Hno.out]
          exact bodyPost_ret (valueOf_results (u9.setCells [.int .i64 0, .int .i64 0, .string ⟨#[]⟩, .slice none 0 0, .slice none 0 0] rfl) rfl rfl) rfl ⟨_, rfl, RVal.zero, below_setCells (g := w.heap.size + 1) (Nat.le_succ _) [.int .i64 0, .int .i64 0, .string ⟨#[]⟩, .slice none 0 0, .slice none 0 0] 0 _ hw9⟩
          --BAD1]
        · have e1 : decide ((j : Int) < lv) = false := by simpa using hfl
          have hst := Hst.out
          rw [if_neg (by simpa using hfl)] at hst
          replace Hst := Lib.hid hst
          clear hfl hst
          go_wp2_with fail
          clear q0 q1 q2 q3 hgpl t0 t1 t2 t3 t4 hlT e1
          have hTw := HT.out
          have HTr := Lib.hid (RType.fair.keep HT.out (⟨(below_via hbG hbr HGle.out).size, fun g hg _ => (below_via hbG hbr HGle.out).block g (Nat.lt_of_lt_of_le hg hwG)⟩ : Keep (Old w) W3 (wr.alloc (.cells #[.int .i64 j, .int .i64 pk, .int .i64 pn, .string pp] 70))))
          clear hTw
          obtain ⟨P, hPe⟩ : ∃ P, P = wr.heap.size := ⟨_, rfl⟩
          rw [← hPe] at hP hbr hGw ⊢
          have HPe := Lib.hid hPe
          clear hPe
          generalize hWa : wr.alloc (.cells #[.int .i64 j, .int .i64 pk, .int .i64 pn, .string pp] 70) = Wa at *
          clear hWa
          refine (fieldIn_outV (Old w) _ t j _ HTr.out).mono ?_
          rintro e w5 ⟨fx, hfx, rfl, hb5⟩
          have hlPa := hP.lt
          replace hP := hP.below hb5 hP.lt
          replace hbr := below_via hbr hb5 (by go_light; omega)
          obtain ⟨so, hso⟩ : ∃ so, so = (fieldOf t (j : Int)).isSome := ⟨_, rfl⟩
          rw [← hso]
          have hlP := hP.lt
          clear hb5 HTr hlPa Wa
          cases so with
          | false =>
            have hst := Hst.out
            rw [opt_none hso.symm] at hst
            have Hgo : Hid (decGo b rec t (lastP ps (q + 1)) (ps.drop (q + 1)) ai al = DG) := hst.symm
            clear Hst hso hfx hst
            --[SKIP
            go_wp2_with fail
            have hq := Hq.out
            have hbr2 := hbr.alloc (by go_light; omega) (.cells #[.int .i64 fx.id, .string fx.name, .string fx.type, .int .i64 fx.kind, .int .i64 fx.rule] 53)
            go_roundg (gk - 1)
            case measure => go_light; omega
            case rel => exact ⟨q + 1, ai, al, vs, T, rfl, by rw [Hls.out], by go_num, by go_light; omega, Hgo, Hll.out, by have := Hlq.out; go_light; omega, hR.below (by rw [← HPe.out]; exact hbr2), zG.below hbr2 hGw, below_via hbG (by rw [← HPe.out]; exact hbr2) HGle.out⟩
            --SKIP]
          | true =>
            have hsome := opt_some hso.symm hfx.out
            have hst := Hst.out
            rw [hsome] at hst
            have hfp : fieldP b fx := msg_field HM.out (fieldOf_some hsome).1
            obtain ⟨fid, fname, ftype, fkind, frule⟩ := fx
            have Hfp := Lib.hid hfp
            dsimp only at hst ⊢
            replace Hst := Lib.hid hst
            have p1 : w5.cell? ⟨P, 1, none⟩ = some (.int .i64 pk) := hP.cell 1
            have p2 : w5.cell? ⟨P, 2, none⟩ = some (.int .i64 pn) := hP.cell 2
            clear hso hfx hsome hfp hst
            go_upto_if 86 with fail
            clear p1 p2
            have hbd := (hbr.alloc (by go_light; omega) (.cells #[.int .i64 fid, .string fname, .string ftype, .int .i64 fkind, .int .i64 frule] 53)).alloc (by simp; go_light; omega) (.cells #[.int .i64 pk, .int .i64 pn, .string ⟨#[]⟩, .slice none 0 0, .slice none 0 0] 28)
            have dF : Box ((w5.alloc (.cells #[.int .i64 fid, .string fname, .string ftype, .int .i64 fkind, .int .i64 frule] 53)).alloc (.cells #[.int .i64 pk, .int .i64 pn, .string ⟨#[]⟩, .slice none 0 0, .slice none 0 0] 28)) w5.heap.size 53 [.int .i64 fid, .string fname, .string ftype, .int .i64 fkind, .int .i64 frule] := (Box.new w5 _ _).alloc _
            have dX : Box ((w5.alloc (.cells #[.int .i64 fid, .string fname, .string ftype, .int .i64 fkind, .int .i64 frule] 53)).alloc (.cells #[.int .i64 pk, .int .i64 pn, .string ⟨#[]⟩, .slice none 0 0, .slice none 0 0] 28)) (w5.heap.size + 1) 28 [.int .i64 pk, .int .i64 pn, .string ⟨#[]⟩, .slice none 0 0, .slice none 0 0] := by
              have := Box.new (w5.alloc (.cells #[.int .i64 fid, .string fname, .string ftype, .int .i64 fkind, .int .i64 frule] 53)) 28 [.int .i64 pk, .int .i64 pn, .string ⟨#[]⟩, .slice none 0 0, .slice none 0 0]
              simpa using this
            have dP := (hP.alloc (.cells #[.int .i64 fid, .string fname, .string ftype, .int .i64 fkind, .int .i64 frule] 53)).alloc (.cells #[.int .i64 pk, .int .i64 pn, .string ⟨#[]⟩, .slice none 0 0, .slice none 0 0] 28)
            generalize hWd : (w5.alloc (.cells #[.int .i64 fid, .string fname, .string ftype, .int .i64 fkind, .int .i64 frule] 53)).alloc (.cells #[.int .i64 pk, .int .i64 pn, .string ⟨#[]⟩, .slice none 0 0, .slice none 0 0] 28) = Wd at *
            generalize hX : w5.heap.size + 1 = X at *
            generalize hF : w5.heap.size = F at *
            have hPX : P < X := by go_light; omega
            have hFX : F ≠ X := by go_light; omega
            have hPF : P < F := hlP
            clear hWd hX hF hbr hP hlP w5
            go_cut [] from 86 to 89 (fun wx => ∃ xs, Hid (xs = if pk = 1 then pp else ⟨#[]⟩) ∧ Box wx X 28 [.int .i64 pk, .int .i64 pn, .string xs, .slice none 0 0, .slice none 0 0] ∧ Box wx F 53 [.int .i64 fid, .string fname, .string ftype, .int .i64 fkind, .int .i64 frule] ∧ Box wx P 70 [.int .i64 j, .int .i64 pk, .int .i64 pn, .string pp] ∧ Below P wr wx)
            case first =>
              --[F
              by_cases hpk : pk = 1
              · have hpb : (pk == 1) = true := by simpa using hpk
                have p3 : Wd.cell? ⟨P, 3, none⟩ = some (.string pp) := dP.cell 3
                have hlp := dP.lt
                have f2 := dX.frozen 2
                have x2 : Wd.cell? ⟨X, 2, none⟩ = some (.string ⟨#[]⟩) := dX.cell 2
                have hlx := dX.lt
                have rel : Hid (∃ xs, Hid (xs = if pk = 1 then pp else ⟨#[]⟩) ∧ Box (Wd.setCell ⟨X, 2, none⟩ (.string pp)) X 28 [.int .i64 pk, .int .i64 pn, .string xs, .slice none 0 0, .slice none 0 0] ∧ Box (Wd.setCell ⟨X, 2, none⟩ (.string pp)) F 53 [.int .i64 fid, .string fname, .string ftype, .int .i64 fkind, .int .i64 frule] ∧ Box (Wd.setCell ⟨X, 2, none⟩ (.string pp)) P 70 [.int .i64 j, .int .i64 pk, .int .i64 pn, .string pp] ∧ Below P wr (Wd.setCell ⟨X, 2, none⟩ (.string pp))) :=
                  ⟨pp, (show pp = if pk = 1 then pp else ⟨#[]⟩ from by rw [if_pos hpk]), dX.set_ 2 _, dF.far (p := ⟨X, 2, none⟩) hFX _, dP.far (p := ⟨X, 2, none⟩) (by show P ≠ X; go_light; omega) _, hbd.setCell (p := ⟨X, 2, none⟩) (by show P ≤ X; go_light; omega) _⟩
                clear hpk dX dF dP hbd
                go_wp2_with fail
                go_meet
                case rel => exact rel.out
              · have hpb : (pk == 1) = false := by simpa using hpk
                have rel : Hid (∃ xs, Hid (xs = if pk = 1 then pp else ⟨#[]⟩) ∧ Box Wd X 28 [.int .i64 pk, .int .i64 pn, .string xs, .slice none 0 0, .slice none 0 0] ∧ Box Wd F 53 [.int .i64 fid, .string fname, .string ftype, .int .i64 fkind, .int .i64 frule] ∧ Box Wd P 70 [.int .i64 j, .int .i64 pk, .int .i64 pn, .string pp] ∧ Below P wr Wd) :=
                  ⟨⟨#[]⟩, (show ⟨#[]⟩ = if pk = 1 then pp else ⟨#[]⟩ from by rw [if_neg hpk]), dX, dF, dP, hbd⟩
                clear hpk dX dF dP hbd
                go_wp2_with fail
                go_meet
                case rel => exact rel.out
              --F]
            case rest =>
              obtain ⟨xs, hxs, eX, eF, eP, hbe⟩ := hcut
              have hbv : bareV ⟨(j : Int), pk, pn, pp⟩ = .mk pk pn xs [] [] := by unfold bareV; rw [hxs.out]
              have hxz : xs.size ≤ 20000 := by
                rw [hxs.out]
                split
                · exact Hpz.out
                · decide
              have hst := Hst.out
              rw [hbv] at hst
              obtain ⟨v0, v1, v2, v3, v4⟩ := eF.five
              obtain ⟨u0, u1, u2, u3, u4⟩ := eX.five
              have hGP : w.heap.size < P := by go_light; omega
              have b0 : wc.cell? ⟨w.heap.size, 0, none⟩ = some (.slice A b.length cap) := (zB.below hbe hGP).cell 0
              have hlB := (zB.below hbe hGP).lt
              have hlF := eF.lt
              have hlX := eX.lt
              have HBe := Lib.hid ((RSl.fair RType.fair).below HB.out (hw.trans ((below_via hbG (by rw [← HPe.out]; exact hbe) HGle.out).mono hwG)))
              obtain ⟨fi, hfi⟩ : ∃ fi, fi = fitsF b ⟨fid, fname, ftype, fkind, frule⟩ (.mk pk pn xs [] []) := ⟨_, rfl⟩
              have hcall := single_any (Old w) (fun _ => False) _ b ⟨fid, fname, ftype, fkind, frule⟩ _ (.mk pk pn xs [] []) wc HBe.out (RVal.plain pk pn xs) (by show xs.size ≤ _; go_light; omega) (by have := Hfp.out.2.2.2.1; go_light; omega) (by have := Hfp.out.2.2.2.2.1; exact this)
              rw [← hfi] at hcall hst
              have Hcall := Lib.hid hcall
              replace Hst := Lib.hid hst
              clear hcall hfi hst hbv hxs dX dF dP hbd Wd HBe
              go_wp2_with fail
              refine Hcall.out.mono ?_
              rintro e w6 ⟨rfl, hb6⟩
              replace hbe := below_via hbe hb6 (by go_light; omega)
              replace eX := eX.below hb6 eX.lt
              replace eF := eF.below hb6 eF.lt
              replace eP := eP.below hb6 eP.lt
              clear v0 v1 v2 v3 v4 u0 u1 u2 u3 u4 b0 hlB hlF hlX Hcall hb6 wc
              by_cases hfi0 : fi = 0
              · subst hfi0
                have hst := Hst.out
                rw [if_neg (by simp), rowL_has Hll.out] at hst
                replace Hst := Lib.hid hst
                have hjv : j < vs.length := by rw [hR.len]; exact hj31
                obtain ⟨RA, rc, hrow, hrc⟩ := hR.row hjv
                have hgc : w6.cell? ⟨GB, j, none⟩ = some (.slice RA (rowL ai al j).length rc) := by
                  rw [(zG.below hbe hGw).cell j, List.getElem?_eq_getElem hjv, hrow]
                have hgl : GB < w6.heap.size := (zG.below hbe hGw).lt
                have hnl : (rowL ai al j).length ≤ 20000 := by have := rowL_len ai al j; have := Hlq.out; go_light; omega
                obtain ⟨n, hn⟩ : ∃ n, n = (rowL ai al j).length := ⟨_, rfl⟩
                rw [← hn] at hgc hnl hst
                replace Hst := Lib.hid hst
                have Hn := Lib.hid hn
                have Hrow := Lib.hid hrow
                have p0 : w6.cell? ⟨P, 0, none⟩ = some (.int .i64 j) := eP.cell 0
                have hlP := eP.lt
                have v4 : w6.cell? ⟨F, 4, none⟩ = some (.int .i64 frule) := eF.cell 4
                have hlF := eF.lt
                clear hn hrow hst
                go_upto_region 24 with fail
                go_cut [112] from 101 to 112 (fun c wx => c = .bool (decide (0 < n) && decide (frule < 3)) ∧ wx = w6)
                case first =>
                  --[G
                  by_cases hn0 : 0 < n
                  · have e1 : decide ((n : Int) > 0) = true := by simp; go_light; omega
                    have e2 : decide (0 < n) = true := by simpa using hn0
                    go_wp2_with fail
                    go_meet
                    case rel => exact ⟨by first | rfl | simp [hn0], rfl⟩
                  · have e1 : decide ((n : Int) > 0) = false := by simp; go_light; omega
                    have e2 : decide (0 < n) = false := by simpa using hn0
                    go_wp2_with fail
                    go_meet
                    case rel => exact ⟨by first | rfl | simp [hn0], rfl⟩
                  --G]
                case rest =>
                  obtain ⟨rfl, rfl⟩ := hcut
                  clear v4 hlF p0 hlP hgc hgl
                  have hr3 : frule ≤ 3 := Hfp.out.2.2.2.2.2.2.1
                  obtain ⟨tw, htw⟩ : ∃ tw, tw = (decide (0 < n) && decide (frule < 3)) := ⟨_, rfl⟩
                  have hite : ∀ {α : Type} (x y : α), (if frule ≠ 3 ∧ decide (0 < n) = true then x else y) = if tw = true then x else y := by
                    intro α x y
                    rw [htw]
                    by_cases h0 : 0 < n <;> by_cases h3 : frule = 3
                    · simp [h0, h3]
                    · simp [h0, h3]; intro h; exfalso; omega
                    · simp [h0]
                    · simp [h0]
                  have hst := Hst.out
                  rw [hite] at hst
                  rw [← htw]
                  clear htw hite
                  cases tw with
                  | true =>
                    have Hno : Hid (r = (.zero, 4)) := by
                      show _ = _
                      rw [if_pos rfl] at hst
                      rw [Hr.out, hst]; rfl
                    clear hst Hst
                    --[BAD4
                    go_wp2_with fail
                    refine (no_any 4 _).mono ?_
                    rintro e w9 ⟨rfl, hb9⟩
                    have hw9 := below_via (hw.trans ((below_via hbG (show Below wr.heap.size wr wc by rw [← HPe.out]; exact hbe) HGle.out).mono hwG)) hb9 (hw.trans ((below_via hbG (show Below wr.heap.size wr wc by rw [← HPe.out]; exact hbe) HGle.out).mono hwG)).size
                    have u9 := (zR.below (show Below wr.heap.size wr wc by rw [← HPe.out]; exact hbe) zR.lt).below hb9 (zR.below (show Below wr.heap.size wr wc by rw [← HPe.out]; exact hbe) zR.lt).lt
                    obtain ⟨r0, r1, r2, r3, r4⟩ := u9.five
                    have g0 := u9.frozen 0
                    have g1 := u9.frozen 1
                    have g2 := u9.frozen 2
                    have g3 := u9.frozen 3
                    have g4 := u9.frozen 4
                    have hlr := u9.lt
                    go_wp2_with fail
                    change bodyPost _ _ _ _ _ (setCells w9 (w.heap.size + 1) 0 [.int .i64 0, .int .i64 0, .string ⟨#[]⟩, .slice none 0 0, .slice none 0 0])
                    rw [Hno.out]
                    exact bodyPost_ret (valueOf_results (u9.setCells [.int .i64 0, .int .i64 0, .string ⟨#[]⟩, .slice none 0 0, .slice none 0 0] rfl) rfl rfl) rfl ⟨_, rfl, RVal.zero, below_setCells (g := w.heap.size + 1) (Nat.le_succ _) [.int .i64 0, .int .i64 0, .string ⟨#[]⟩, .slice none 0 0, .slice none 0 0] 0 _ hw9⟩
                    --BAD4]
                  | false =>
                    rw [if_neg (by simp)] at hst
                    replace Hst := Lib.hid hst
                    clear hst
                    have c3 : wc.cell? ⟨F, 3, none⟩ = some (.int .i64 fkind) := eF.cell 3
                    have hlF := eF.lt
                    go_upto_if 119 with fail
                    clear c3 hlF
                    have hPw : P < wc.heap.size := eP.lt
                    have hXw : X < wc.heap.size := eX.lt
                    go_cut [12] from 119 to 137 (fun c wx => ∃ (xk xn : Int) (xt : ByteArray) (xi : List Int) (xl : List ValueD) (E1 : Option Addr) (f1 : Nat) (E2 : Option Addr) (f2 pa pb : Nat), c = .int .i64 0 ∧ X < pa ∧ pb ≤ wx.heap.size ∧ Hid (decGo b rec t (lastP ps (q + 1)) (ps.drop (q + 1)) (ai ++ [(j : Int)]) (al ++ [(ValueD.mk xk xn xt xi xl)]) = DG) ∧
                        Box wx X 28 [.int .i64 xk, .int .i64 xn, .string xt, .slice E1 xi.length f1, .slice E2 xl.length f2] ∧ Box wx P 70 [.int .i64 j, .int .i64 pk, .int .i64 pn, .string pp] ∧ RVal (fun y => pa ≤ y ∧ y < pb) wx [.int .i64 xk, .int .i64 xn, .string xt, .slice E1 xi.length f1, .slice E2 xl.length f2] (ValueD.mk xk xn xt xi xl) ∧ Below P wr wx)
                    case first =>
                      --[K5
                      by_cases hk5 : fkind = 5
                      · have b5 : (fkind == 5) = true := by simpa using hk5
                        have hst := Hst.out
                        rw [if_pos hk5] at hst
                        obtain ⟨t2, ht2, _, _, _, hen2, _⟩ := field_msg HG.out Hfp.out hk5
                        have hnb : noneB b ftype = false := by unfold noneB; rw [show findT b ftype = some t2 from ht2]; exact hen2
                        have hih := IH.out (Old w) ftype pp
                        rw [← Hrec.out] at hih
                        obtain ⟨⟨⟨xk, xn, xt, xi, xl⟩, c7⟩, hRV⟩ : ∃ R, R = rec (typeOf b ftype) (bytes pp) := ⟨_, rfl⟩
                        rw [← hRV] at hih hst
                        have Hih := Lib.hid (fun W h => hih W h hnb (by have := Hpz.out; unfold maxLen; go_light; omega))
                        replace Hst := Lib.hid hst
                        have c2 : wc.cell? ⟨F, 2, none⟩ = some (.string ftype) := eF.cell 2
                        have hlF := eF.lt
                        have p3 : wc.cell? ⟨P, 3, none⟩ = some (.string pp) := eP.cell 3
                        have hGP : w.heap.size < P := by go_light; omega
                        have b0 : wc.cell? ⟨w.heap.size, 0, none⟩ = some (.slice A b.length cap) := (zB.below hbe hGP).cell 0
                        have hlB := (zB.below hbe hGP).lt
                        have e5 : IntKind.i64.wrap ((k : Int) + 1 - 1) = (k : Int) := by rw [Int.add_sub_cancel]; exact IntWalk.i64_in _ (by go_light; omega)
                        have e6 : IntKind.i64.wrap (k : Int) = (k : Int) := IntWalk.i64_in _ (by go_light; omega)
                        have HBe := Lib.hid ((RSl.fair RType.fair).below HB.out (hw.trans ((below_via hbG (by rw [← HPe.out]; exact hbe) HGle.out).mono hwG)))
                        clear hk5 hst hih hRV ht2 hen2 hnb
                        go_wp2_with fail
                        refine (Hih.out _ HBe.out).mono ?_
                        rintro e w7 ⟨cs7, rfl, hr7, hb7⟩
                        obtain ⟨E1, f1, E2, f2, rfl, -, -⟩ := hr7.parts
                        have hv7 := RVal.cut hr7
                        have gX := eX.below hb7 eX.lt
                        have gP := eP.below hb7 eP.lt
                        have hb7' := below_via hbe hb7 (by go_light; omega)
                        have hs7 := hb7.size
                        clear c2 hlF p3 b0 hlB e5 e6 HBe hr7 hb7 eX eF eP hbe
                        obtain ⟨r0, r1, r2, r3, r4⟩ := gX.five
                        have g0 := gX.frozen 0
                        have g1 := gX.frozen 1
                        have g2 := gX.frozen 2
                        have g3 := gX.frozen 3
                        have g4 := gX.frozen 4
                        have hlr := gX.lt
                        go_upto_region 28 with fail
                        change Code.wp _ _ _ _ (setCells w7 X 0 [.int .i64 xk, .int .i64 xn, .string xt, .slice E1 xi.length f1, .slice E2 xl.length f2])
                        clear r0 r1 r2 r3 r4 g0 g1 g2 g3 g4 hlr
                        have hvX := RVal.fair.keep hv7 (Keep.setCells (g := X) (by show ¬ (wc.heap.size ≤ X ∧ _); go_light; omega) [.int .i64 xk, .int .i64 xn, .string xt, .slice E1 xi.length f1, .slice E2 xl.length f2] 0 w7)
                        have gX8 := gX.setCells [.int .i64 xk, .int .i64 xn, .string xt, .slice E1 xi.length f1, .slice E2 xl.length f2] rfl
                        have gP8 := gP.farCells (g' := X) (by go_light; omega) [.int .i64 xk, .int .i64 xn, .string xt, .slice E1 xi.length f1, .slice E2 xl.length f2] 0
                        have hb8 := below_setCells (g := X) (by go_light; omega) [.int .i64 xk, .int .i64 xn, .string xt, .slice E1 xi.length f1, .slice E2 xl.length f2] 0 _ hb7'
                        have hs8 : w7.heap.size ≤ (setCells w7 X 0 [.int .i64 xk, .int .i64 xn, .string xt, .slice E1 xi.length f1, .slice E2 xl.length f2]).heap.size := by simp [setCells, World.setCell]
                        generalize setCells w7 X 0 [.int .i64 xk, .int .i64 xn, .string xt, .slice E1 xi.length f1, .slice E2 xl.length f2] = w8 at *
                        clear hv7 gX gP hb7'
                        by_cases hc7 : c7 = 0
                        · subst hc7
                          have hst := Hst.out
                          rw [if_neg (by simp)] at hst
                          have Hgo : Hid (decGo b rec t (lastP ps (q + 1)) (ps.drop (q + 1)) (ai ++ [(j : Int)]) (al ++ [(ValueD.mk xk xn xt xi xl)]) = DG) := hst.symm
                          clear hst Hst
                          go_wp2_with fail
                          go_meet
                          case rel => exact ⟨xk, xn, xt, xi, xl, E1, f1, E2, f2, wc.heap.size, w7.heap.size, rfl, hXw, hs8, Hgo, gX8, gP8, hvX, hb8⟩
                        · have Hno : Hid (r = (.zero, c7)) := by
                            show _ = _
                            have h1 := Hst.out
                            rw [if_pos hc7] at h1
                            rw [Hr.out, h1, if_pos hc7]
                          have hcb : (c7 != 0) = true := by simpa using hc7
                          clear hc7 Hst
                          go_wp2_with fail
                          refine (no_any c7 _).mono ?_
                          rintro e w9 ⟨rfl, hb9⟩
                          have hw9 := below_via (hw.trans ((below_via hbG (show Below wr.heap.size wr w8 by rw [← HPe.out]; exact hb8) HGle.out).mono hwG)) hb9 (hw.trans ((below_via hbG (show Below wr.heap.size wr w8 by rw [← HPe.out]; exact hb8) HGle.out).mono hwG)).size
                          have u9 := (zR.below (show Below wr.heap.size wr w8 by rw [← HPe.out]; exact hb8) zR.lt).below hb9 (zR.below (show Below wr.heap.size wr w8 by rw [← HPe.out]; exact hb8) zR.lt).lt
                          obtain ⟨r0, r1, r2, r3, r4⟩ := u9.five
                          have g0 := u9.frozen 0
                          have g1 := u9.frozen 1
                          have g2 := u9.frozen 2
                          have g3 := u9.frozen 3
                          have g4 := u9.frozen 4
                          have hlr := u9.lt
                          go_wp2_with fail
                          change bodyPost _ _ _ _ _ (setCells w9 (w.heap.size + 1) 0 [.int .i64 0, .int .i64 0, .string ⟨#[]⟩, .slice none 0 0, .slice none 0 0])
                          rw [Hno.out]
                          exact bodyPost_ret (valueOf_results (u9.setCells [.int .i64 0, .int .i64 0, .string ⟨#[]⟩, .slice none 0 0, .slice none 0 0] rfl) rfl rfl) rfl ⟨_, rfl, RVal.zero, below_setCells (g := w.heap.size + 1) (Nat.le_succ _) [.int .i64 0, .int .i64 0, .string ⟨#[]⟩, .slice none 0 0, .slice none 0 0] 0 _ hw9⟩
                      · have b5 : (fkind == 5) = false := by simpa using hk5
                        have hst := Hst.out
                        rw [if_neg hk5] at hst
                        have Hgo : Hid (decGo b rec t (lastP ps (q + 1)) (ps.drop (q + 1)) (ai ++ [(j : Int)]) (al ++ [.mk pk pn xs [] []]) = DG) := hst.symm
                        clear hk5 hst Hst
                        go_wp2_with fail
                        go_meet
                        case rel => exact ⟨pk, pn, xs, [], [], none, 0, none, 0, wc.heap.size, wc.heap.size, rfl, hXw, Nat.le_refl _, Hgo, eX, eP, RVal.plain pk pn xs, hbe⟩
                      --K5]
                    case rest =>
                      obtain ⟨W8, hW8⟩ : ∃ V, V = wc := ⟨_, rfl⟩
                      clear eX eF eP hbe hPw hXw Hst
                      obtain ⟨xk, xn, xt, xi, xl, E1, f1, E2, f2, pa, pb, rfl, hXa, hpb, Hgo, hX, hP, hv, hbr⟩ := hcut
                      subst hW8
                      have hPw : P < W8.heap.size := hP.lt
                      go_upto_region 30 with fail
                      go_cut [139] from 138 to 139 (fun c wx => ∃ bb, c = .bool bb ∧ pb ≤ wx.heap.size ∧ Box wx X 28 [.int .i64 xk, .int .i64 xn, .string xt, .slice E1 xi.length f1, .slice E2 xl.length f2] ∧ Box wx P 70 [.int .i64 j, .int .i64 pk, .int .i64 pn, .string pp] ∧ RVal (fun y => pa ≤ y ∧ y < pb) wx [.int .i64 xk, .int .i64 xn, .string xt, .slice E1 xi.length f1, .slice E2 xl.length f2] (ValueD.mk xk xn xt xi xl) ∧ Below P wr wx)
                      case first =>
                        --[R30
                        have hdr := below_drew hbr
                        have hXd : X < W8.drew.heap.size := hX.lt
                        have hdP : P < W8.drew.heap.size := hPw
                        have hdb : pb ≤ W8.drew.heap.size := hpb
                        replace hX := hX.drew
                        replace hP := hP.drew
                        replace hv := RVal.fair.keep hv (Keep.drew _ _)
                        refine late_start (fun _ => True) 3 (by kernel_rfl) ?_
                        have hS : True := trivial
                        generalize W8.drew = Wd at hdr hXd hdP hdb hX hP hv ⊢
                        clear hbr
                        refine late_one (i := 0) rfl (by kernel_rfl) (fun K hK => ?_)
                        go_simp
                        have zc := Box.newB hdr 4 [.bool false]
                        have hsz : (Wd.alloc (.cells #[.bool false] 4)).heap.size = Wd.heap.size + 1 := by simp
                        replace hX := hX.alloc (.cells #[.bool false] 4)
                        replace hP := hP.alloc (.cells #[.bool false] 4)
                        replace hv := RVal.fair.keep hv (Keep.alloc _ _ (.cells #[.bool false] 4))
                        replace hdr := hdr.alloc (by go_light; omega) (.cells #[.bool false] 4)
                        refine hK.out _ _ (fun _ => hS) ?_
                        clear hK K
                        try simp only [Act.put, List.getElem_toArray, List.getElem_cons_zero, List.getElem_cons_succ, List.setIfInBounds_toArray, List.set_cons_zero, List.set_cons_succ]
                        change anyL _ _ _ _ _ _ _ _ _ (Wd.alloc (.cells #[.bool false] 4))
                        obtain ⟨CB, hCB⟩ : ∃ c, c = Wd.heap.size := ⟨_, rfl⟩
                        rw [← hCB] at zc hXd hdP hdb hsz ⊢
                        have hXC : X ≠ CB := by go_light; omega
                        have hPC : P ≠ CB := by go_light; omega
                        have hCP : P ≤ CB := by go_light; omega
                        have hvC : ¬ (pa ≤ CB ∧ CB < pb) := by go_light; omega
                        replace hdb : pb ≤ (Wd.alloc (.cells #[.bool false] 4)).heap.size := by rw [hsz]; go_light; omega
                        generalize Wd.alloc (.cells #[.bool false] 4) = We at *
                        clear hsz hCB
                        have z0 := zc.cell 0
                        have zf := zc.frozen 0
                        have zl := zc.lt
                        simp only [List.getElem?_cons_zero] at z0
                        refine late_two (i := 1) (j := 2) rfl rfl (by kernel_rfl) (fun K hK => ?_) (fun K hK => ?_)
                        · go_simp
                          have zc1 := zc.set_ 0 (.bool true)
                          simp only [List.set_cons_zero] at zc1
                          refine hK.out _ _ (fun _ => hS) ?_
                          clear hK K
                          try simp only [Act.put, List.getElem_toArray, List.getElem_cons_zero, List.getElem_cons_succ, List.setIfInBounds_toArray, List.set_cons_zero, List.set_cons_succ]
                          clear z0 zf zl
                          have z0 := zc1.cell 0
                          have zf := zc1.frozen 0
                          have zl := zc1.lt
                          simp only [List.getElem?_cons_zero] at z0
                          refine late_one (i := 2) rfl (by kernel_rfl) (fun K hK => ?_)
                          go_simp
                          have zc2 := zc1.set_ 0 (.bool false)
                          simp only [List.set_cons_zero] at zc2
                          refine hK.out _ _ (fun _ => hS) ?_
                          clear hK K
                          try simp only [Act.put, List.getElem_toArray, List.getElem_cons_zero, List.getElem_cons_succ, List.setIfInBounds_toArray, List.set_cons_zero, List.set_cons_succ]
                          clear z0 zf zl
                          have z0 := zc2.cell 0
                          have zl := zc2.lt
                          simp only [List.getElem?_cons_zero] at z0
                          refine late_one (i := 3) rfl (by kernel_rfl) (fun K hK => ?_)
                          go_simp
                          refine hK.out _ _ (fun h => absurd h (by decide)) ?_
                          clear hK K
                          try simp only [Act.put, List.getElem_toArray, List.getElem_cons_zero, List.getElem_cons_succ, List.setIfInBounds_toArray, List.set_cons_zero, List.set_cons_succ]
                          refine late_done (by kernel_rfl) ?_ _
                          clear z0 zl
                          go_wp2_with fail
                          go_meet
                          case rel => exact ⟨false, rfl, by simpa [World.setCell] using hdb, (hX.far (p := ⟨CB, 0, none⟩) hXC _).far (p := ⟨CB, 0, none⟩) hXC _, (hP.far (p := ⟨CB, 0, none⟩) hPC _).far (p := ⟨CB, 0, none⟩) hPC _, RVal.fair.keep (RVal.fair.keep hv (Keep.setCell _ (a := ⟨CB, 0, none⟩) _ hvC)) (Keep.setCell _ (a := ⟨CB, 0, none⟩) _ hvC), (hdr.setCell (p := ⟨CB, 0, none⟩) hCP _).setCell (p := ⟨CB, 0, none⟩) hCP _⟩
                        · go_simp
                          have zc1 := zc.set_ 0 (.bool false)
                          simp only [List.set_cons_zero] at zc1
                          refine hK.out _ _ (fun _ => hS) ?_
                          clear hK K
                          try simp only [Act.put, List.getElem_toArray, List.getElem_cons_zero, List.getElem_cons_succ, List.setIfInBounds_toArray, List.set_cons_zero, List.set_cons_succ]
                          clear z0 zf zl
                          have z0 := zc1.cell 0
                          have zf := zc1.frozen 0
                          have zl := zc1.lt
                          simp only [List.getElem?_cons_zero] at z0
                          refine late_one (i := 1) rfl (by kernel_rfl) (fun K hK => ?_)
                          go_simp
                          have zc2 := zc1.set_ 0 (.bool true)
                          simp only [List.set_cons_zero] at zc2
                          refine hK.out _ _ (fun _ => hS) ?_
                          clear hK K
                          try simp only [Act.put, List.getElem_toArray, List.getElem_cons_zero, List.getElem_cons_succ, List.setIfInBounds_toArray, List.set_cons_zero, List.set_cons_succ]
                          clear z0 zf zl
                          have z0 := zc2.cell 0
                          have zl := zc2.lt
                          simp only [List.getElem?_cons_zero] at z0
                          refine late_one (i := 3) rfl (by kernel_rfl) (fun K hK => ?_)
                          go_simp
                          refine hK.out _ _ (fun h => absurd h (by decide)) ?_
                          clear hK K
                          try simp only [Act.put, List.getElem_toArray, List.getElem_cons_zero, List.getElem_cons_succ, List.setIfInBounds_toArray, List.set_cons_zero, List.set_cons_succ]
                          refine late_done (by kernel_rfl) ?_ _
                          clear z0 zl
                          go_wp2_with fail
                          go_meet
                          case rel => exact ⟨true, rfl, by simpa [World.setCell] using hdb, (hX.far (p := ⟨CB, 0, none⟩) hXC _).far (p := ⟨CB, 0, none⟩) hXC _, (hP.far (p := ⟨CB, 0, none⟩) hPC _).far (p := ⟨CB, 0, none⟩) hPC _, RVal.fair.keep (RVal.fair.keep hv (Keep.setCell _ (a := ⟨CB, 0, none⟩) _ hvC)) (Keep.setCell _ (a := ⟨CB, 0, none⟩) _ hvC), (hdr.setCell (p := ⟨CB, 0, none⟩) hCP _).setCell (p := ⟨CB, 0, none⟩) hCP _⟩
                        --R30]
                      case rest =>
                        obtain ⟨bb, rfl, hpb2, hX2, hP2, hv2, hbr2⟩ := hcut
                        clear hX hP hv hbr hPw hpb W8
                        have hXl : X < wc.heap.size := hX2.lt
                        have hPl : P < wc.heap.size := hP2.lt
                        have hRw := hR.below (show Below wr.heap.size wr wc by rw [← HPe.out]; exact hbr2)
                        have hRt0 : RowsG (GB + 1) wc GB vs (rowL ai al) (fun y => T y ∨ (pa ≤ y ∧ y < pb)) := hRw.take (by go_light; omega) hpb2 (fun i hi y hy => .inl (by have := hR.lt hi hy; rw [← HPe.out] at this; go_light; omega))
                        have hvT : RVal (fun y => T y ∨ (pa ≤ y ∧ y < pb)) wc [.int .i64 xk, .int .i64 xn, .string xt, .slice E1 xi.length f1, .slice E2 xl.length f2] (ValueD.mk xk xn xt xi xl) := RVal.fair.mono hv2 (fun y hy _ => .inr hy)
                        have hnX : ∀ y, (T y ∨ (pa ≤ y ∧ y < pb)) → y ≠ X := fun y hy e => by
                          rcases hy with hy | hy
                          · have := hR.hT y hy; rw [← HPe.out] at this; go_light; omega
                          · go_light; omega
                        have hGT2 : ∀ y, (T y ∨ (pa ≤ y ∧ y < pb)) → GB + 1 ≤ y := fun y hy => by
                          rcases hy with hy | hy
                          · exact (hR.hT y hy).1
                          · go_light; omega
                        obtain ⟨T2, hT2⟩ : ∃ T2 : Nat → Prop, T2 = (fun y => T y ∨ (pa ≤ y ∧ y < pb)) := ⟨_, rfl⟩
                        have hbG2 := below_via hbG (show Below wr.heap.size wr wc by rw [← HPe.out]; exact hbr2) HGle.out
                        have zGx := zG.below hbr2 hGw
                        rw [← hT2] at hRt0 hvT
                        have hOwn : ∀ y, (Value.slice RA n rc).ownBlock = some y → GB + 1 ≤ y ∧ y < P := fun y hy => by
                          have := hR.lt hjv (x := y) (by rw [Hrow.out, ← Hn.out]; exact hy)
                          rw [← HPe.out] at this; exact this
                        have HOwn := Lib.hid hOwn
                        have hrows : (fun i => if i = j then rowL ai al j ++ [(ValueD.mk xk xn xt xi xl)] else rowL ai al i) = rowL (ai ++ [(j : Int)]) (al ++ [(ValueD.mk xk xn xt xi xl)]) := funext fun i => (rowL_push Hll.out j (ValueD.mk xk xn xt xi xl) i).symm
                        have HRows := Lib.hid hrows
                        clear hT2 hv2 hRw hnX hGT2 hOwn hrows hpb2 hbr2
                        obtain ⟨W9, hW9⟩ : ∃ V, V = wc := ⟨_, rfl⟩
                        subst hW9
                        have hS9 : GB ≤ W9.heap.size := Nat.le_of_lt zGx.lt
                        cases bb with
                        | false =>
                          --[R33
                          go_upto_region 33 with fail
                          have HSK := Lib.hid (fun (W' : World) (h1 : Box W' X 28 [.int .i64 xk, .int .i64 xn, .string xt, .slice E1 xi.length f1, .slice E2 xl.length f2]) (h2 : Box W' P 70 [.int .i64 j, .int .i64 pk, .int .i64 pn, .string pp]) (h3 : Box W' GB 26 vs) => (⟨h2.cell 0, by rw [h3.cell j, List.getElem?_eq_getElem hjv, Hrow.out, Hn.out], h1.five⟩ : World.cell? W' ⟨P, 0, none⟩ = some (.int .i64 (j : Int)) ∧ World.cell? W' ⟨GB, j, none⟩ = some (.slice RA n rc) ∧ World.cell? W' ⟨X, 0, none⟩ = some (.int .i64 xk) ∧ World.cell? W' ⟨X, 1, none⟩ = some (.int .i64 xn) ∧ World.cell? W' ⟨X, 2, none⟩ = some (.string xt) ∧ World.cell? W' ⟨X, 3, none⟩ = some (.slice E1 xi.length f1) ∧ World.cell? W' ⟨X, 4, none⟩ = some (.slice E2 xl.length f2)))
                          have hX := hX2.drew
                          have hP := hP2.drew
                          replace zGx := zGx.drew
                          have hRt := hRt0.drew
                          replace hvT := RVal.fair.keep hvT (Keep.drew _ _)
                          replace hbG2 := below_drew hbG2
                          replace hS9 : GB ≤ W9.drew.heap.size := hS9
                          have hS := HSK.out _ hX hP zGx
                          refine late_start (fun W' => World.cell? W' ⟨P, 0, none⟩ = some (.int .i64 (j : Int)) ∧ World.cell? W' ⟨GB, j, none⟩ = some (.slice RA n rc) ∧ World.cell? W' ⟨X, 0, none⟩ = some (.int .i64 xk) ∧ World.cell? W' ⟨X, 1, none⟩ = some (.int .i64 xn) ∧ World.cell? W' ⟨X, 2, none⟩ = some (.string xt) ∧ World.cell? W' ⟨X, 3, none⟩ = some (.slice E1 xi.length f1) ∧ World.cell? W' ⟨X, 4, none⟩ = some (.slice E2 xl.length f2)) 11 (by kernel_rfl) ?_
                          generalize W9.drew = Wd at hX hP zGx hRt hvT hbG2 hS9 hS ⊢
                          clear hX2 hP2 hRt0 hXl hPl
                          refine late_take (i := 0) (v := ?_) rfl (by kernel_rfl) (fun _ _ _ h => h) ⟨by kernel_rfl, ?_⟩ hS ?_
                          rotate_left
                          · (intro w hSw; (try dsimp only at hSw); go_simp; first | done | with_reducible rfl)
                          try simp only [Act.put, List.getElem_toArray, List.getElem_cons_zero, List.getElem_cons_succ, List.setIfInBounds_toArray, List.set_cons_zero, List.set_cons_succ]
                          refine late_take (i := 1) (v := ?_) rfl (by kernel_rfl) (fun _ _ _ h => h) ⟨by kernel_rfl, ?_⟩ hS ?_
                          rotate_left
                          · (intro w hSw; (try dsimp only at hSw); go_simp; first | done | with_reducible rfl)
                          try simp only [Act.put, List.getElem_toArray, List.getElem_cons_zero, List.getElem_cons_succ, List.setIfInBounds_toArray, List.set_cons_zero, List.set_cons_succ]
                          refine late_take (i := 2) (v := ?_) rfl (by kernel_rfl) (fun _ _ _ h => h) ⟨by kernel_rfl, ?_⟩ hS ?_
                          rotate_left
                          · (intro w hSw; (try dsimp only at hSw); go_simp; first | done | with_reducible rfl)
                          try simp only [Act.put, List.getElem_toArray, List.getElem_cons_zero, List.getElem_cons_succ, List.setIfInBounds_toArray, List.set_cons_zero, List.set_cons_succ]
                          refine late_take (i := 3) (v := ?_) rfl (by kernel_rfl) (fun _ _ _ h => h) ⟨by kernel_rfl, ?_⟩ hS ?_
                          rotate_left
                          · (intro w hSw; (try dsimp only at hSw); go_simp; first | done | with_reducible rfl)
                          try simp only [Act.put, List.getElem_toArray, List.getElem_cons_zero, List.getElem_cons_succ, List.setIfInBounds_toArray, List.set_cons_zero, List.set_cons_succ]
                          refine late_take (i := 4) (v := ?_) rfl (by kernel_rfl) (fun _ _ _ h => h) ⟨by kernel_rfl, ?_⟩ hS ?_
                          rotate_left
                          · (intro w hSw; (try dsimp only at hSw); go_simp; first | done | with_reducible rfl)
                          try simp only [Act.put, List.getElem_toArray, List.getElem_cons_zero, List.getElem_cons_succ, List.setIfInBounds_toArray, List.set_cons_zero, List.set_cons_succ]
                          refine late_take (i := 5) (v := ?_) rfl (by kernel_rfl) (fun _ _ _ h => h) ⟨by kernel_rfl, ?_⟩ hS ?_
                          rotate_left
                          · (intro w hSw; (try dsimp only at hSw); go_simp; first | done | with_reducible rfl)
                          try simp only [Act.put, List.getElem_toArray, List.getElem_cons_zero, List.getElem_cons_succ, List.setIfInBounds_toArray, List.set_cons_zero, List.set_cons_succ]
                          refine late_take (i := 6) (v := ?_) rfl (by kernel_rfl) (fun _ _ _ h => h) ⟨by kernel_rfl, ?_⟩ hS ?_
                          rotate_left
                          · (intro w hSw; (try dsimp only at hSw); go_simp; first | done | with_reducible rfl)
                          try simp only [Act.put, List.getElem_toArray, List.getElem_cons_zero, List.getElem_cons_succ, List.setIfInBounds_toArray, List.set_cons_zero, List.set_cons_succ]
                          refine late_take (i := 7) (v := ?_) rfl (by kernel_rfl) (fun _ _ _ h => h) ⟨by kernel_rfl, ?_⟩ hS ?_
                          rotate_left
                          · (intro w hSw; (try dsimp only at hSw); go_simp; first | done | with_reducible rfl)
                          try simp only [Act.put, List.getElem_toArray, List.getElem_cons_zero, List.getElem_cons_succ, List.setIfInBounds_toArray, List.set_cons_zero, List.set_cons_succ]
                          refine late_take (i := 8) (v := ?_) rfl (by kernel_rfl) (fun _ _ _ h => h) ⟨by kernel_rfl, ?_⟩ hS ?_
                          rotate_left
                          · (intro w hSw; (try dsimp only at hSw); go_simp; first | done | with_reducible rfl)
                          try simp only [Act.put, List.getElem_toArray, List.getElem_cons_zero, List.getElem_cons_succ, List.setIfInBounds_toArray, List.set_cons_zero, List.set_cons_succ]
                          refine late_one (i := 9) rfl (by kernel_rfl) (fun K hK => ?_)
                          go_simp
                          have hZ := Box.newB hbG2 28 [.int .i64 xk, .int .i64 xn, .string xt, .slice E1 xi.length f1, .slice E2 xl.length f2]
                          replace hX := hX.alloc (.cells #[.int .i64 xk, .int .i64 xn, .string xt, .slice E1 xi.length f1, .slice E2 xl.length f2] 28)
                          replace hP := hP.alloc (.cells #[.int .i64 xk, .int .i64 xn, .string xt, .slice E1 xi.length f1, .slice E2 xl.length f2] 28)
                          replace zGx := zGx.alloc (.cells #[.int .i64 xk, .int .i64 xn, .string xt, .slice E1 xi.length f1, .slice E2 xl.length f2] 28)
                          replace hRt := hRt.alloc (.cells #[.int .i64 xk, .int .i64 xn, .string xt, .slice E1 xi.length f1, .slice E2 xl.length f2] 28)
                          replace hvT := RVal.fair.keep hvT (Keep.alloc _ _ (.cells #[.int .i64 xk, .int .i64 xn, .string xt, .slice E1 xi.length f1, .slice E2 xl.length f2] 28))
                          replace hbG2 := hbG2.alloc hS9 (.cells #[.int .i64 xk, .int .i64 xn, .string xt, .slice E1 xi.length f1, .slice E2 xl.length f2] 28)
                          replace hS := HSK.out _ hX hP zGx
                          refine hK.out _ _ (fun _ => hS) ?_
                          clear hK K
                          try simp only [Act.put, List.getElem_toArray, List.getElem_cons_zero, List.getElem_cons_succ, List.setIfInBounds_toArray, List.set_cons_zero, List.set_cons_succ]
                          have ho := hRt.own j hjv
                          rw [Hrow.out, ← Hn.out] at ho
                          refine late_one (i := 10) rfl (by kernel_rfl) (fun K hK => ?_)
                          refine step_append _ rfl (.tmp 158) (.tmp 160) rfl sl_vals RVal.fair rfl rfl ho (Src.one (es := [.int .i64 xk, .int .i64 xn, .string xt, .slice E1 xi.length f1, .slice E2 xl.length f2]) (y := (ValueD.mk xk xn xt xi xl)) rfl (Ones.of_all rfl) hvT hZ.lies) (fun g h => (hRt.hT g h).2) (by simp; have := Hn.out; go_light; omega) hRt.hb ?_
                          intro v9 w9 ho9 hg9 hv9
                          have hR9 := hRt.push hjv ho9 (by rw [Hrow.out, ← Hn.out]; exact hg9) (by rw [Hrow.out, ← Hn.out]; exact hv9)
                          replace hX := hX.grown hg9 (fun e => by have := HOwn.out _ e; go_light; omega)
                          replace hP := hP.grown hg9 (fun e => by have := HOwn.out _ e; go_light; omega)
                          replace zGx := zGx.grown hg9 (fun e => by have := HOwn.out _ e; go_light; omega)
                          have hbG9 := below_grown hbG2 hg9 (by have := hRt.hb; go_light; omega) (fun g' h => by have := (HOwn.out _ h).1; go_light; omega)
                          obtain ⟨R9, c9, rfl, _⟩ := ho9.form
                          have hl9 : (rowL ai al j ++ [(ValueD.mk xk xn xt xi xl)]).length = n + 1 := by rw [List.length_append, ← Hn.out]; rfl
                          rw [hl9] at hR9 ⊢
                          have gz := (HSK.out _ hX hP zGx).2.1
                          have gf := zGx.frozen j
                          have gl := zGx.lt
                          replace hS := HSK.out _ hX hP zGx
                          refine hK.out _ _ (fun _ => hS) ?_
                          clear hK K
                          try simp only [Act.put, List.getElem_toArray, List.getElem_cons_zero, List.getElem_cons_succ, List.setIfInBounds_toArray, List.set_cons_zero, List.set_cons_succ]
                          clear hg9 hv9 ho9 ho hZ hl9 hvT hRt hbG2
                          refine late_one (i := 11) rfl (by kernel_rfl) (fun K hK => ?_)
                          go_simp
                          refine hK.out _ _ (fun h => absurd h (by decide)) ?_
                          clear hK K
                          try simp only [Act.put, List.getElem_toArray, List.getElem_cons_zero, List.getElem_cons_succ, List.setIfInBounds_toArray, List.set_cons_zero, List.set_cons_succ]
                          refine late_one (i := 12) rfl (by kernel_rfl) (fun K hK => ?_)
                          go_simp
                          refine hK.out _ _ (fun h => absurd h (by decide)) ?_
                          clear hK K
                          try simp only [Act.put, List.getElem_toArray, List.getElem_cons_zero, List.getElem_cons_succ, List.setIfInBounds_toArray, List.set_cons_zero, List.set_cons_succ]
                          refine late_done (by kernel_rfl) ?_ _
                          have hRF := hR9.near (p := ⟨GB, j, none⟩) (Nat.lt_succ_self GB) (.slice R9 (n + 1) c9)
                          have zGF := zGx.set_ j (.slice R9 (n + 1) c9)
                          have hbGF := hbG9.setCell (p := ⟨GB, j, none⟩) (Nat.le_refl GB) (.slice R9 (n + 1) c9)
                          rw [HRows.out] at hRF
                          clear hS gz gf gl hX hP zGx hR9 hbG9 HSK
                          go_wp2_with fail
                          have hq := Hq.out
                          have hll := Hll.out
                          have hlq := Hlq.out
                          go_roundg (gk - 1)
                          case measure => go_light; omega
                          case rel => exact ⟨q + 1, ai ++ [(j : Int)], al ++ [(ValueD.mk xk xn xt xi xl)], vs.set j (.slice R9 (n + 1) c9), T2, rfl, by rw [Hls.out], by go_num, by go_light; omega, Hgo, by simp [hll], by simp; go_light; omega, hRF, zGF, hbGF⟩
                          --R33]
                        | true =>
                          --[R31
                          go_upto_region 31 with fail
                          have HSK := Lib.hid (fun (W' : World) (h1 : Box W' X 28 [.int .i64 xk, .int .i64 xn, .string xt, .slice E1 xi.length f1, .slice E2 xl.length f2]) (h2 : Box W' P 70 [.int .i64 j, .int .i64 pk, .int .i64 pn, .string pp]) (h3 : Box W' GB 26 vs) => (⟨h2.cell 0, by rw [h3.cell j, List.getElem?_eq_getElem hjv, Hrow.out, Hn.out], h1.five⟩ : World.cell? W' ⟨P, 0, none⟩ = some (.int .i64 (j : Int)) ∧ World.cell? W' ⟨GB, j, none⟩ = some (.slice RA n rc) ∧ World.cell? W' ⟨X, 0, none⟩ = some (.int .i64 xk) ∧ World.cell? W' ⟨X, 1, none⟩ = some (.int .i64 xn) ∧ World.cell? W' ⟨X, 2, none⟩ = some (.string xt) ∧ World.cell? W' ⟨X, 3, none⟩ = some (.slice E1 xi.length f1) ∧ World.cell? W' ⟨X, 4, none⟩ = some (.slice E2 xl.length f2)))
                          have hX := hX2.drew
                          have hP := hP2.drew
                          replace zGx := zGx.drew
                          have hRt := hRt0.drew
                          replace hvT := RVal.fair.keep hvT (Keep.drew _ _)
                          replace hbG2 := below_drew hbG2
                          replace hS9 : GB ≤ W9.drew.heap.size := hS9
                          have hS := HSK.out _ hX hP zGx
                          refine late_start (fun W' => World.cell? W' ⟨P, 0, none⟩ = some (.int .i64 (j : Int)) ∧ World.cell? W' ⟨GB, j, none⟩ = some (.slice RA n rc) ∧ World.cell? W' ⟨X, 0, none⟩ = some (.int .i64 xk) ∧ World.cell? W' ⟨X, 1, none⟩ = some (.int .i64 xn) ∧ World.cell? W' ⟨X, 2, none⟩ = some (.string xt) ∧ World.cell? W' ⟨X, 3, none⟩ = some (.slice E1 xi.length f1) ∧ World.cell? W' ⟨X, 4, none⟩ = some (.slice E2 xl.length f2)) 9 (by kernel_rfl) ?_
                          generalize W9.drew = Wd at hX hP zGx hRt hvT hbG2 hS9 hS ⊢
                          clear hX2 hP2 hRt0 hXl hPl
                          refine late_take (i := 0) (v := ?_) rfl (by kernel_rfl) (fun _ _ _ h => h) ⟨by kernel_rfl, ?_⟩ hS ?_
                          rotate_left
                          · (intro w hSw; (try dsimp only at hSw); go_simp; first | done | with_reducible rfl)
                          try simp only [Act.put, List.getElem_toArray, List.getElem_cons_zero, List.getElem_cons_succ, List.setIfInBounds_toArray, List.set_cons_zero, List.set_cons_succ]
                          refine late_take (i := 1) (v := ?_) rfl (by kernel_rfl) (fun _ _ _ h => h) ⟨by kernel_rfl, ?_⟩ hS ?_
                          rotate_left
                          · (intro w hSw; (try dsimp only at hSw); go_simp; first | done | with_reducible rfl)
                          try simp only [Act.put, List.getElem_toArray, List.getElem_cons_zero, List.getElem_cons_succ, List.setIfInBounds_toArray, List.set_cons_zero, List.set_cons_succ]
                          refine late_take (i := 2) (v := ?_) rfl (by kernel_rfl) (fun _ _ _ h => h) ⟨by kernel_rfl, ?_⟩ hS ?_
                          rotate_left
                          · (intro w hSw; (try dsimp only at hSw); go_simp; first | done | with_reducible rfl)
                          try simp only [Act.put, List.getElem_toArray, List.getElem_cons_zero, List.getElem_cons_succ, List.setIfInBounds_toArray, List.set_cons_zero, List.set_cons_succ]
                          refine late_take (i := 3) (v := ?_) rfl (by kernel_rfl) (fun _ _ _ h => h) ⟨by kernel_rfl, ?_⟩ hS ?_
                          rotate_left
                          · (intro w hSw; (try dsimp only at hSw); go_simp; first | done | with_reducible rfl)
                          try simp only [Act.put, List.getElem_toArray, List.getElem_cons_zero, List.getElem_cons_succ, List.setIfInBounds_toArray, List.set_cons_zero, List.set_cons_succ]
                          refine late_take (i := 4) (v := ?_) rfl (by kernel_rfl) (fun _ _ _ h => h) ⟨by kernel_rfl, ?_⟩ hS ?_
                          rotate_left
                          · (intro w hSw; (try dsimp only at hSw); go_simp; first | done | with_reducible rfl)
                          try simp only [Act.put, List.getElem_toArray, List.getElem_cons_zero, List.getElem_cons_succ, List.setIfInBounds_toArray, List.set_cons_zero, List.set_cons_succ]
                          refine late_take (i := 5) (v := ?_) rfl (by kernel_rfl) (fun _ _ _ h => h) ⟨by kernel_rfl, ?_⟩ hS ?_
                          rotate_left
                          · (intro w hSw; (try dsimp only at hSw); go_simp; first | done | with_reducible rfl)
                          try simp only [Act.put, List.getElem_toArray, List.getElem_cons_zero, List.getElem_cons_succ, List.setIfInBounds_toArray, List.set_cons_zero, List.set_cons_succ]
                          refine late_take (i := 6) (v := ?_) rfl (by kernel_rfl) (fun _ _ _ h => h) ⟨by kernel_rfl, ?_⟩ hS ?_
                          rotate_left
                          · (intro w hSw; (try dsimp only at hSw); go_simp; first | done | with_reducible rfl)
                          try simp only [Act.put, List.getElem_toArray, List.getElem_cons_zero, List.getElem_cons_succ, List.setIfInBounds_toArray, List.set_cons_zero, List.set_cons_succ]
                          refine late_one (i := 7) rfl (by kernel_rfl) (fun K hK => ?_)
                          go_simp
                          have hZ := Box.newB hbG2 28 [.int .i64 0, .int .i64 0, .string ⟨#[]⟩, .slice none 0 0, .slice none 0 0]
                          replace hX := hX.alloc (.cells #[.int .i64 0, .int .i64 0, .string ⟨#[]⟩, .slice none 0 0, .slice none 0 0] 28)
                          replace hP := hP.alloc (.cells #[.int .i64 0, .int .i64 0, .string ⟨#[]⟩, .slice none 0 0, .slice none 0 0] 28)
                          replace zGx := zGx.alloc (.cells #[.int .i64 0, .int .i64 0, .string ⟨#[]⟩, .slice none 0 0, .slice none 0 0] 28)
                          replace hRt := hRt.alloc (.cells #[.int .i64 0, .int .i64 0, .string ⟨#[]⟩, .slice none 0 0, .slice none 0 0] 28)
                          replace hvT := RVal.fair.keep hvT (Keep.alloc _ _ (.cells #[.int .i64 0, .int .i64 0, .string ⟨#[]⟩, .slice none 0 0, .slice none 0 0] 28))
                          replace hbG2 := hbG2.alloc hS9 (.cells #[.int .i64 0, .int .i64 0, .string ⟨#[]⟩, .slice none 0 0, .slice none 0 0] 28)
                          replace hS := HSK.out _ hX hP zGx
                          refine hK.out _ _ (fun _ => hS) ?_
                          clear hK K
                          try simp only [Act.put, List.getElem_toArray, List.getElem_cons_zero, List.getElem_cons_succ, List.setIfInBounds_toArray, List.set_cons_zero, List.set_cons_succ]
                          have ho := hRt.own j hjv
                          rw [Hrow.out, ← Hn.out] at ho
                          refine late_one (i := 8) rfl (by kernel_rfl) (fun K hK => ?_)
                          refine step_append _ rfl (.tmp 144) (.tmp 147) rfl sl_vals RVal.fair rfl rfl ho (Src.one (es := [.int .i64 0, .int .i64 0, .string ⟨#[]⟩, .slice none 0 0, .slice none 0 0]) (y := .zero) rfl (Ones.of_all rfl) RVal.zero hZ.lies) (fun g h => (hRt.hT g h).2) (by simp; have := Hn.out; go_light; omega) hRt.hb ?_
                          intro v9 w9 ho9 hg9 hv9
                          have hnT : ∀ k, (Value.slice RA n rc).ownBlock = some k → ¬ T2 k := fun k hk => by
                            have ho' := hRt.own j hjv
                            obtain ⟨_, _, _, h3, _⟩ := ho'
                            exact h3 k (by rw [Hrow.out, ← Hn.out]; exact hk)
                          have hv9T := RVal.fair.keep hvT (Keep.of_grown hg9 hnT)
                          have hGnT : ¬ T2 GB := fun h => by have := (hRt.hT _ h).1; go_light; omega
                          have hR9 := hRt.push hjv ho9 (by rw [Hrow.out, ← Hn.out]; exact hg9) (by rw [Hrow.out, ← Hn.out]; exact hv9)
                          replace hX := hX.grown hg9 (fun e => by have := HOwn.out _ e; go_light; omega)
                          replace hP := hP.grown hg9 (fun e => by have := HOwn.out _ e; go_light; omega)
                          replace zGx := zGx.grown hg9 (fun e => by have := HOwn.out _ e; go_light; omega)
                          have hbG9 := below_grown hbG2 hg9 (by have := hRt.hb; go_light; omega) (fun g' h => by have := (HOwn.out _ h).1; go_light; omega)
                          obtain ⟨r9, c9, rfl, hbr9⟩ := ho9.there
                          obtain ⟨hcl, hfz, hlr9⟩ := ho9.tail
                          rw [← Hn.out] at hR9 hcl ⊢
                          have gz := (HSK.out _ hX hP zGx).2.1
                          have gf := zGx.frozen j
                          have gl := zGx.lt
                          replace hS := HSK.out _ hX hP zGx
                          refine hK.out _ _ (fun _ => hS) ?_
                          clear hK K
                          try simp only [Act.put, List.getElem_toArray, List.getElem_cons_zero, List.getElem_cons_succ, List.setIfInBounds_toArray, List.set_cons_zero, List.set_cons_succ]
                          clear hg9 hv9 ho9 ho hZ hvT hRt hbG2 hnT
                          refine late_one (i := 9) rfl (by kernel_rfl) (fun K hK => ?_)
                          go_simp
                          refine hK.out _ _ (fun h => absurd h (by decide)) ?_
                          clear hK K
                          try simp only [Act.put, List.getElem_toArray, List.getElem_cons_zero, List.getElem_cons_succ, List.setIfInBounds_toArray, List.set_cons_zero, List.set_cons_succ]
                          refine late_one (i := 10) rfl (by kernel_rfl) (fun K hK => ?_)
                          go_simp
                          refine hK.out _ _ (fun h => absurd h (by decide)) ?_
                          clear hK K
                          try simp only [Act.put, List.getElem_toArray, List.getElem_cons_zero, List.getElem_cons_succ, List.setIfInBounds_toArray, List.set_cons_zero, List.set_cons_succ]
                          refine late_done (by kernel_rfl) ?_ _
                          have hRF := hR9.near (p := ⟨GB, j, none⟩) (Nat.lt_succ_self GB) (.slice (some ⟨r9, 0, none⟩) (n + 1) c9)
                          have zGF := zGx.set_ j (.slice (some ⟨r9, 0, none⟩) (n + 1) c9)
                          have hbGF := hbG9.setCell (p := ⟨GB, j, none⟩) (Nat.le_refl GB) (.slice (some ⟨r9, 0, none⟩) (n + 1) c9)
                          have hvF := RVal.fair.keep hv9T (Keep.setCell w9 (a := ⟨GB, j, none⟩) (.slice (some ⟨r9, 0, none⟩) (n + 1) c9) hGnT)
                          have hrG : r9 ≠ GB := by go_light; omega
                          have hne : ∀ i, (w9.setCell ⟨GB, j, none⟩ (.slice (some ⟨r9, 0, none⟩) (n + 1) c9)).cell? ⟨r9, i, none⟩ = w9.cell? ⟨r9, i, none⟩ := fun i => cell_far hrG
                          have hnf : ∀ i, (w9.setCell ⟨GB, j, none⟩ (.slice (some ⟨r9, 0, none⟩) (n + 1) c9)).frozen? ⟨r9, i, none⟩ = w9.frozen? ⟨r9, i, none⟩ := fun i => frozen_far hrG
                          have hlF : r9 < (w9.setCell ⟨GB, j, none⟩ (.slice (some ⟨r9, 0, none⟩) (n + 1) c9)).heap.size := by simpa [World.setCell] using hlr9
                          obtain ⟨u0, d0⟩ := hcl 0 (by decide)
                          obtain ⟨u1, d1⟩ := hcl 1 (by decide)
                          obtain ⟨u2, d2⟩ := hcl 2 (by decide)
                          obtain ⟨u3, d3⟩ := hcl 3 (by decide)
                          obtain ⟨u4, d4⟩ := hcl 4 (by decide)
                          have b0 := hfz (n * 5)
                          have b1 := hfz (n * 5 + 1)
                          have b2 := hfz (n * 5 + 2)
                          have b3 := hfz (n * 5 + 3)
                          have b4 := hfz (n * 5 + 4)
                          rw [← hne] at d0 d1 d2 d3 d4
                          rw [← hnf] at b0 b1 b2 b3 b4
                          simp only [Nat.add_zero] at d0
                          have hnn : (n : Int) < (n : Int) + 1 := by go_light; omega
                          obtain ⟨hRG, _⟩ := hRF.last (j := j) (r := r9) (cap := c9) (by rw [List.length_set]; exact hjv) (acc := rowL ai al j) (z := .zero) (x := (ValueD.mk xk xn xt xi xl)) (c0 := .int .i64 xk) (c1 := .int .i64 xn) (c2 := .string xt) (c3 := .slice E1 xi.length f1) (c4 := .slice E2 xl.length f2) (by simp) (by rw [List.getElem_set_self, Hn.out]) hvF
                          rw [← Hn.out] at hRG
                          have hfun : (fun i => if i = j then rowL ai al j ++ [(ValueD.mk xk xn xt xi xl)] else (fun i => if i = j then rowL ai al j ++ [ValueD.zero] else rowL ai al i) i) = rowL (ai ++ [(j : Int)]) (al ++ [(ValueD.mk xk xn xt xi xl)]) := by
                            rw [← HRows.out]; funext i; by_cases e : i = j <;> simp [e]
                          rw [hfun] at hRG
                          have zGH := zGF.farCells (g' := r9) (fun e => hrG e.symm) [.int .i64 xk, .int .i64 xn, .string xt, .slice E1 xi.length f1, .slice E2 xl.length f2] (n * 5)
                          have hbGH := below_setCells (g := r9) (by go_light; omega) [.int .i64 xk, .int .i64 xn, .string xt, .slice E1 xi.length f1, .slice E2 xl.length f2] (n * 5) _ hbGF
                          clear hS gz gf gl hX hP zGx hR9 hbG9 HSK hRF zGF hbGF hvF hcl hfz hlr9 hne hnf hv9T hGnT hfun
                          generalize w9.setCell ⟨GB, j, none⟩ (.slice (some ⟨r9, 0, none⟩) (n + 1) c9) = wF at *
                          have k1 : (World.setCell wF ⟨r9, n * 5, none⟩ (.int .i64 xk)).cell? ⟨r9, n * 5 + 1, none⟩ = some u1 := by rw [cell_beside (by go_light; omega)]; exact d1
                          have k2 : (World.setCell (World.setCell wF ⟨r9, n * 5, none⟩ (.int .i64 xk)) ⟨r9, n * 5 + 1, none⟩ (.int .i64 xn)).cell? ⟨r9, n * 5 + 2, none⟩ = some u2 := by rw [cell_beside (by go_light; omega), cell_beside (by go_light; omega)]; exact d2
                          have k3 : (World.setCell (World.setCell (World.setCell wF ⟨r9, n * 5, none⟩ (.int .i64 xk)) ⟨r9, n * 5 + 1, none⟩ (.int .i64 xn)) ⟨r9, n * 5 + 2, none⟩ (.string xt)).cell? ⟨r9, n * 5 + 3, none⟩ = some u3 := by rw [cell_beside (by go_light; omega), cell_beside (by go_light; omega), cell_beside (by go_light; omega)]; exact d3
                          have k4 : (World.setCell (World.setCell (World.setCell (World.setCell wF ⟨r9, n * 5, none⟩ (.int .i64 xk)) ⟨r9, n * 5 + 1, none⟩ (.int .i64 xn)) ⟨r9, n * 5 + 2, none⟩ (.string xt)) ⟨r9, n * 5 + 3, none⟩ (.slice E1 xi.length f1)).cell? ⟨r9, n * 5 + 4, none⟩ = some u4 := by rw [cell_beside (by go_light; omega), cell_beside (by go_light; omega), cell_beside (by go_light; omega), cell_beside (by go_light; omega)]; exact d4
                          have e1 : (World.setCell wF ⟨r9, n * 5, none⟩ (.int .i64 xk)).frozen? ⟨r9, n * 5 + 1, none⟩ = false := by simp only [World.frozen?_setCell]; exact b1
                          have e2 : (World.setCell (World.setCell wF ⟨r9, n * 5, none⟩ (.int .i64 xk)) ⟨r9, n * 5 + 1, none⟩ (.int .i64 xn)).frozen? ⟨r9, n * 5 + 2, none⟩ = false := by simp only [World.frozen?_setCell]; exact b2
                          have e3 : (World.setCell (World.setCell (World.setCell wF ⟨r9, n * 5, none⟩ (.int .i64 xk)) ⟨r9, n * 5 + 1, none⟩ (.int .i64 xn)) ⟨r9, n * 5 + 2, none⟩ (.string xt)).frozen? ⟨r9, n * 5 + 3, none⟩ = false := by simp only [World.frozen?_setCell]; exact b3
                          have e4 : (World.setCell (World.setCell (World.setCell (World.setCell wF ⟨r9, n * 5, none⟩ (.int .i64 xk)) ⟨r9, n * 5 + 1, none⟩ (.int .i64 xn)) ⟨r9, n * 5 + 2, none⟩ (.string xt)) ⟨r9, n * 5 + 3, none⟩ (.slice E1 xi.length f1)).frozen? ⟨r9, n * 5 + 4, none⟩ = false := by simp only [World.frozen?_setCell]; exact b4
                          go_upto_region 34 with fail
                          change Code.wp _ _ _ _ (setCells wF r9 (n * 5) [.int .i64 xk, .int .i64 xn, .string xt, .slice E1 xi.length f1, .slice E2 xl.length f2])
                          generalize setCells wF r9 (n * 5) [.int .i64 xk, .int .i64 xn, .string xt, .slice E1 xi.length f1, .slice E2 xl.length f2] = wH at *
                          clear d0 d1 d2 d3 d4 b0 b1 b2 b3 b4 k1 k2 k3 k4 e1 e2 e3 e4
                          go_wp2_with fail
                          have hq := Hq.out
                          have hll := Hll.out
                          have hlq := Hlq.out
                          go_roundg (gk - 1)
                          case measure => go_light; omega
                          case rel => exact ⟨q + 1, ai ++ [(j : Int)], al ++ [(ValueD.mk xk xn xt xi xl)], vs.set j (.slice (some ⟨r9, 0, none⟩) (n + 1) c9), T2, rfl, by rw [Hls.out], by go_num, by go_light; omega, Hgo, by simp [hll], by simp; go_light; omega, hRG, zGH, hbGH⟩
                          --R31]
              · have Hno : Hid (r = (.zero, fi)) := by
                  show _ = _
                  have h1 := Hst.out
                  rw [if_pos hfi0] at h1
                  rw [Hr.out, h1, if_pos hfi0]
                have hfb : (fi != 0) = true := by simpa using hfi0
                clear hfi0 Hst
                --[BADF
                go_wp2_with fail
                refine (no_any fi _).mono ?_
                rintro e w9 ⟨rfl, hb9⟩
                have hw9 := below_via (hw.trans ((below_via hbG (show Below wr.heap.size wr w6 by rw [← HPe.out]; exact hbe) HGle.out).mono hwG)) hb9 (hw.trans ((below_via hbG (show Below wr.heap.size wr w6 by rw [← HPe.out]; exact hbe) HGle.out).mono hwG)).size
                have u9 := (zR.below (show Below wr.heap.size wr w6 by rw [← HPe.out]; exact hbe) zR.lt).below hb9 (zR.below (show Below wr.heap.size wr w6 by rw [← HPe.out]; exact hbe) zR.lt).lt
                obtain ⟨r0, r1, r2, r3, r4⟩ := u9.five
                have g0 := u9.frozen 0
                have g1 := u9.frozen 1
                have g2 := u9.frozen 2
                have g3 := u9.frozen 3
                have g4 := u9.frozen 4
                have hlr := u9.lt
                go_wp2_with fail
                change bodyPost _ _ _ _ _ (setCells w9 (w.heap.size + 1) 0 [.int .i64 0, .int .i64 0, .string ⟨#[]⟩, .slice none 0 0, .slice none 0 0])
                rw [Hno.out]
                exact bodyPost_ret (valueOf_results (u9.setCells [.int .i64 0, .int .i64 0, .string ⟨#[]⟩, .slice none 0 0, .slice none 0 0] rfl) rfl rfl) rfl ⟨_, rfl, RVal.zero, below_setCells (g := w.heap.size + 1) (Nat.le_succ _) [.int .i64 0, .int .i64 0, .string ⟨#[]⟩, .slice none 0 0, .slice none 0 0] 0 _ hw9⟩
                --BADF]
        --RND]
      · --[END
        have hdr : ps.drop q = [] := List.drop_eq_nil_of_le (by go_light; omega)
        rw [hdr, decGo] at he
        have Hfin : Hid (r = (filledF b 4 t ai al, 0)) := by
          show _ = _
          rw [Hr.out, ← he.out]; simp
        obtain ⟨WA, hWA⟩ : ∃ V, V = wr := ⟨_, rfl⟩
        subst hWA
        have hai : ai.length ≤ 20000 := by have := hpl; go_light; omega
        have hlen : ∀ n, n ≤ t.fields.length → (fillTo b t ai al n).length ≤ 100005 := fun n hn => by
          have := fillTo_len b t ai al n hn
          have h5 := HM.out.1
          have : n * (1 + ai.length) ≤ 5 * 20001 := Nat.mul_le_mul (by omega) (by omega)
          omega
        have HLen := Lib.hid hlen
        have h5 : t.fields.length ≤ 5 := HM.out.1
        have hGA : GB < WA.heap.size := zG.lt
        have hXA : XT < WA.heap.size := zT.lt
        have hRA : w.heap.size + 1 < WA.heap.size := zR.lt
        have hwA := hw.trans (hbG.mono hwG)
        have KF0 : Keep (Old w) W3 WA := ⟨hbG.size, fun g hg _ => hbG.block g (Nat.lt_of_lt_of_le hg hwG)⟩
        have HFA := Lib.hid ((RSl.fair RField.fair).keep HF.out KF0)
        have HBA := Lib.hid ((RSl.fair RType.fair).below HB.out hwA)
        have hT2' : (WA.alloc (.cells #[.int .i64 2, .int .i64 0, .string ⟨#[]⟩, .slice none 0 0, .slice none 0 0] 28)).cell? ⟨XT, 2, none⟩ = some (.slice B1 t.fields.length l1) := (zT.alloc (.cells #[.int .i64 2, .int .i64 0, .string ⟨#[]⟩, .slice none 0 0, .slice none 0 0] 28)).cell 2
        have hXA' : XT < (WA.alloc (.cells #[.int .i64 2, .int .i64 0, .string ⟨#[]⟩, .slice none 0 0, .slice none 0 0] 28)).heap.size := (zT.alloc (.cells #[.int .i64 2, .int .i64 0, .string ⟨#[]⟩, .slice none 0 0, .slice none 0 0] 28)).lt
        have Hll2 := Lib.hid hll
        have HKP := Lib.hid (show ∀ f ∈ t.fields, fieldP b f from fun f hf => msg_field HM.out hf)
        have HEN := Lib.hid (show ∀ f ∈ t.fields, EndsP b 4 f from fun f hf => good_ends HG.out HM.out hf)
        have HRg := Lib.hid hR
        have HZR := Lib.hid zR
        have HZB := Lib.hid zB
        have HZG := Lib.hid zG
        clear hdr he hll hlq hR zG zB zR zT hlen Hr hq hw KF0 hbG z1 z2 zt HT HF HP2 HM HQ1 IH HDG Hrec HPs Hgd2
        have zO0 : Box (WA.alloc (.cells #[.int .i64 2, .int .i64 0, .string ⟨#[]⟩, .slice none 0 0, .slice none 0 0] 28)) WA.heap.size 28 [.int .i64 2, .int .i64 0, .string ⟨#[]⟩, .slice none 0 0, .slice none 0 0] := Box.new _ _ _
        have hbO0 : Below WA.heap.size WA (WA.alloc (.cells #[.int .i64 2, .int .i64 0, .string ⟨#[]⟩, .slice none 0 0, .slice none 0 0] 28)) := (Below.refl _ _).alloc (Nat.le_refl _) _
        go_upto_region 36 with fail
        generalize WA.alloc (.cells #[.int .i64 2, .int .i64 0, .string ⟨#[]⟩, .slice none 0 0, .slice none 0 0] 28) = Wo at *
        go_wp2_with fail
        clear hT2' hXA' hlt
        go_loopw [168] (fun i wi => ∃ (n : Nat) (vi vl : Value), i = .int .i64 n ∧ n ≤ t.fields.length ∧ Rows2 (fun y => GB + 1 ≤ y) (WA.heap.size + 1) wi WA.heap.size vi vl ((fillTo b t ai al n).map (·.1)) ((fillTo b t ai al n).map (·.2)) ∧
            Box wi WA.heap.size 28 [.int .i64 2, .int .i64 0, .string ⟨#[]⟩, vi, vl] ∧ Below WA.heap.size WA wi) (fun i _ => t.fields.length - (intOf i).toNat)
        case atStart => exact ⟨0, .slice none 0 0, .slice none 0 0, rfl, Nat.zero_le _, Rows2.new _ _ _ _ (Nat.lt_succ_self _) zO0.lt, zO0, hbO0⟩
        case round =>
          clear zO0 hbO0
          obtain ⟨n, vi, vl, rfl, hn, hRo, zO, hbO⟩ := hrel
          obtain ⟨WI, hWI⟩ : ∃ V, V = wr := ⟨_, rfl⟩
          subst hWI
          by_cases hlt : n < t.fields.length
          · --[RB
            obtain ⟨fg, fo, rfl, hSf, hgf⟩ := HFA.out.base (by go_light; omega)
            have hc := (HFA.out.flat (enc := fieldCells) hlt).keep (Keep.of_below hbO) hSf
            have hfp := HKP.out t.fields[n] (List.getElem_mem hlt)
            have hen := HEN.out t.fields[n] (List.getElem_mem hlt)
            have hsucc := fillTo_succ (b := b) (t := t) (ids := ai) (l := al) hlt
            have hl1 := HLen.out n (by go_light; omega)
            obtain ⟨f0, hxe⟩ : ∃ x, x = t.fields[n] := ⟨_, rfl⟩
            rw [← hxe] at hc hfp hen hsucc
            obtain ⟨fid, fname, ftype, fkind, frule⟩ := f0
            obtain ⟨_, hi1, hi30, hk1, hk5, _, _, hkp⟩ := hfp
            dsimp only at hi1 hi30 hk1 hk5 hkp
            obtain ⟨j, rfl⟩ : ∃ j : Nat, fid = (j : Int) := ⟨fid.toNat, by omega⟩
            have hj31 : j < 31 := by omega
            have hji : (j : Int) < 31 := by omega
            have hgo := filledGo_row (b := b) (k := 4) Hll2.out ⟨(j : Int), fname, ftype, fkind, frule⟩ j rfl
            rw [hgo] at hsucc
            dsimp only at hsucc
            have hjv : j < vs.length := by rw [HRg.out.len]; exact hj31
            obtain ⟨RA, rc, hrow, hrc⟩ := HRg.out.row hjv
            have hrl := rowL_len ai al j
            have hrd := HRg.out.read hjv (by omega)
            rw [hrow] at hrd
            have q0 : WI.cell? ⟨fg, fo + n * 5, none⟩ = some (.int .i64 j) := hc.at_ 0 rfl
            have q1 : WI.cell? ⟨fg, fo + n * 5 + 1, none⟩ = some (.string fname) := hc.at_ 1 rfl
            have q2 : WI.cell? ⟨fg, fo + n * 5 + 2, none⟩ = some (.string ftype) := hc.at_ 2 rfl
            have q3 : WI.cell? ⟨fg, fo + n * 5 + 3, none⟩ = some (.int .i64 fkind) := hc.at_ 3 rfl
            have q4 : WI.cell? ⟨fg, fo + n * 5 + 4, none⟩ = some (.int .i64 frule) := hc.at_ 4 rfl
            have hgl : fg < WI.heap.size := Nat.lt_of_lt_of_le hgf hbO.size
            obtain ⟨Lr, hLr⟩ : ∃ L, L = if frule = 1 ∧ (rowL ai al j).length = 0 then [leastOfF b 4 ⟨(j : Int), fname, ftype, fkind, frule⟩] else rowL ai al j := ⟨_, rfl⟩
            rw [← hLr] at hsucc
            obtain ⟨rl, hrle⟩ : ∃ L, L = rowL ai al j := ⟨_, rfl⟩
            rw [← hrle] at hLr hrd hrl hrow
            have hLl : Lr.length ≤ 20001 := by
              rw [hLr]; split
              · simp
              · omega
            obtain ⟨P0, hP0⟩ : ∃ P, P = fillTo b t ai al n := ⟨_, rfl⟩
            rw [← hP0] at hRo hl1 hsucc
            have Hsucc := Lib.hid hsucc
            have HLr := Lib.hid hLr
            have Hk := Lib.hid (show 1 ≤ fkind ∧ fkind ≤ 5 ∧ kindP b ⟨(j : Int), fname, ftype, fkind, frule⟩ ∧ EndsP b 4 ⟨(j : Int), fname, ftype, fkind, frule⟩ from ⟨hk1, hk5, hkp, hen⟩)
            have zGI := HZG.out.below hbO hGA
            obtain ⟨nr, hnr⟩ : ∃ n, n = rl.length := ⟨_, rfl⟩
            have Hnr := Lib.hid hnr
            have hGI : (WI.alloc (.cells #[.int .i64 j, .string fname, .string ftype, .int .i64 fkind, .int .i64 frule] 53)).cell? ⟨GB, j, none⟩ = some (.slice RA nr rc) := by
              rw [(zGI.alloc (.cells #[.int .i64 j, .string fname, .string ftype, .int .i64 fkind, .int .i64 frule] 53)).cell j, List.getElem?_eq_getElem hjv, hrow, hnr]
            have hGl : GB < (WI.alloc (.cells #[.int .i64 j, .string fname, .string ftype, .int .i64 fkind, .int .i64 frule] 53)).heap.size := (zGI.alloc (.cells #[.int .i64 j, .string fname, .string ftype, .int .i64 fkind, .int .i64 frule] 53)).lt
            have zX : Box (WI.alloc (.cells #[.int .i64 j, .string fname, .string ftype, .int .i64 fkind, .int .i64 frule] 53)) WI.heap.size 53 [.int .i64 j, .string fname, .string ftype, .int .i64 fkind, .int .i64 frule] := Box.new _ _ _
            have hbX : Below WI.heap.size WI (WI.alloc (.cells #[.int .i64 j, .string fname, .string ftype, .int .i64 fkind, .int .i64 frule] 53)) := (Below.refl _ _).alloc (Nat.le_refl _) _
            have hXs : WI.heap.size + 1 ≤ (WI.alloc (.cells #[.int .i64 j, .string fname, .string ftype, .int .i64 fkind, .int .i64 frule] 53)).heap.size := by simp
            have x0 : (WI.alloc (.cells #[.int .i64 j, .string fname, .string ftype, .int .i64 fkind, .int .i64 frule] 53)).cell? ⟨WI.heap.size, 0, none⟩ = some (.int .i64 j) := zX.cell 0
            have x4 : (WI.alloc (.cells #[.int .i64 j, .string fname, .string ftype, .int .i64 fkind, .int .i64 frule] 53)).cell? ⟨WI.heap.size, 4, none⟩ = some (.int .i64 frule) := zX.cell 4
            have hXl := zX.lt
            have hOI : WA.heap.size < WI.heap.size := zO.lt
            have hrl2 : nr ≤ 20000 := by omega
            rw [← hnr] at hrd
            clear hc hen hsucc hxe hk1 hk5 hkp hgo hrc hrl hLr hrle hP0 zGI hSf hgf hi1 hi30 hnr hrow
            go_upto_region 40 with fail
            clear q0 q1 q2 q3 q4 hgl
            generalize WI.alloc (.cells #[.int .i64 j, .string fname, .string ftype, .int .i64 fkind, .int .i64 frule] 53) = Wx at *
            generalize hX : WI.heap.size = X at *
            clear x0 hGI hGl
            go_cut [184] from 177 to 184 (fun c wx => c = .bool (decide (nr = 0) && (frule == 1)) ∧ wx = Wx)
            case first =>
              by_cases h0 : nr = 0
              · have e1 : ((nr : Int) == 0) = true := by simp; omega
                have e2 : decide (nr = 0) = true := by simpa using h0
                clear h0
                go_wp2_with fail
                go_meet
                case rel => exact ⟨by rw [e2]; rfl, rfl⟩
              · have e1 : ((nr : Int) == 0) = false := by simp; omega
                have e2 : decide (nr = 0) = false := by simpa using h0
                clear h0
                go_wp2_with fail
                go_meet
                case rel => exact ⟨by rw [e2]; rfl, rfl⟩
            case rest =>
              obtain ⟨rfl, rfl⟩ := hcut
              clear x4 hXl
              obtain ⟨tw, htw⟩ : ∃ tw, tw = (decide (nr = 0) && (frule == 1)) := ⟨_, rfl⟩
              have hLr2 : Lr = if tw = true then [leastOfF b 4 ⟨(j : Int), fname, ftype, fkind, frule⟩] else rl := by
                rw [HLr.out, htw, Hnr.out]
                by_cases h0 : rl.length = 0 <;> by_cases h1 : frule = 1 <;> simp [h0, h1]
              rw [← htw]
              clear htw HLr
              have hLs : Lr.length ≤ 20001 := hLl
              obtain ⟨Wy, hWy⟩ : ∃ V, V = wc := ⟨_, rfl⟩
              subst hWy
              have hbX' : Below WI.heap.size WI Wy := by rw [hX]; exact hbX
              have hbAy : Below WA.heap.size WA Wy := below_via hbO hbX' hbO.size
              go_upto_if 184 with fail
              go_cut [26] from 184 to 188 (fun c wx => ∃ (L : Option Addr) (cp qn : Nat), c = .slice L Lr.length cp ∧ RSl 5 80 RVal (fun y => (GB + 1 ≤ y ∧ y < WA.heap.size) ∨ (X ≤ y ∧ y < qn)) wx [.slice L Lr.length cp] Lr ∧ qn ≤ wx.heap.size ∧ Box wx X 53 [.int .i64 j, .string fname, .string ftype, .int .i64 fkind, .int .i64 frule] ∧ Below X WI wx)
              case first =>
                cases tw with
                | true =>
                  --[LB
                  rw [if_pos rfl] at hLr2
                  have HBy := Lib.hid ((RSl.fair RType.fair).below HBA.out hbAy)
                  have Hcall := Lib.hid (leastBy_any (.slice A b.length cap) b HG.out 4 (Old w) ⟨(j : Int), fname, ftype, fkind, frule⟩ Wy HBy.out Hk.out.1 Hk.out.2.1 Hk.out.2.2.1 (deep_of_ends Hk.out.2.2.2))
                  obtain ⟨lv, hlv⟩ : ∃ v, v = leastOfF b 4 ⟨(j : Int), fname, ftype, fkind, frule⟩ := ⟨_, rfl⟩
                  rw [← hlv] at Hcall hLr2
                  have HLr2 := Lib.hid hLr2
                  have b0 : Wy.cell? ⟨w.heap.size, 0, none⟩ = some (.slice A b.length cap) := (HZB.out.below hbAy (by omega)).cell 0
                  have hlB := (HZB.out.below hbAy (by omega)).lt
                  obtain ⟨v0, v1, v2, v3, v4⟩ := zX.five
                  have hlX := zX.lt
                  clear hlv HBy hLl hLs Hsucc hLr2
                  go_wp2_with fail
                  refine (Hcall.out).mono ?_
                  rintro e w7 ⟨cs7, rfl, hr7, hb7⟩
                  obtain ⟨xk, xn, xt, xi, xl⟩ := lv
                  obtain ⟨E1, f1, E2, f2, rfl, -, -⟩ := hr7.parts
                  have rel : Hid (∃ (L : Option Addr) (cp qn : Nat), Value.slice (some ⟨w7.heap.size, 0, none⟩) 1 1 = .slice L [ValueD.mk xk xn xt xi xl].length cp ∧ RSl 5 80 RVal (fun y => (GB + 1 ≤ y ∧ y < WA.heap.size) ∨ (X ≤ y ∧ y < qn)) (w7.alloc (.cells #[.int .i64 xk, .int .i64 xn, .string xt, .slice E1 xi.length f1, .slice E2 xl.length f2] 28)) [.slice L [ValueD.mk xk xn xt xi xl].length cp] [ValueD.mk xk xn xt xi xl] ∧ qn ≤ (w7.alloc (.cells #[.int .i64 xk, .int .i64 xn, .string xt, .slice E1 xi.length f1, .slice E2 xl.length f2] 28)).heap.size ∧
                      Box (w7.alloc (.cells #[.int .i64 xk, .int .i64 xn, .string xt, .slice E1 xi.length f1, .slice E2 xl.length f2] 28)) X 53 [.int .i64 j, .string fname, .string ftype, .int .i64 fkind, .int .i64 frule] ∧ Below X WI (w7.alloc (.cells #[.int .i64 xk, .int .i64 xn, .string xt, .slice E1 xi.length f1, .slice E2 xl.length f2] 28))) := by
                    have h7 := hb7.size
                    refine ⟨some ⟨w7.heap.size, 0, none⟩, 1, w7.heap.size + 1, rfl, ?_, by simp, (zX.below hb7 zX.lt).alloc _, (below_via hbX hb7 (by omega)).alloc (by omega) _⟩
                    refine RSl.of_box (css := [[.int .i64 xk, .int .i64 xn, .string xt, .slice E1 xi.length f1, .slice E2 xl.length f2]]) (Box.new w7 _ _) rfl (.inr ⟨by omega, by omega⟩) (by simp) (by simp) ?_
                    intro k x cs hx hcs
                    cases k with
                    | zero =>
                      simp only [List.getElem?_cons_zero, Option.some.injEq] at hx hcs
                      subst hx hcs
                      exact ⟨rfl, RVal.fair.keep (RVal.fair.mono hr7 (fun y hy hl => .inr ⟨by have : Wy.heap.size ≤ y := hy; omega, by omega⟩)) (Keep.alloc _ _ _)⟩
                    | succ k => simp at hx
                  rw [← HLr2.out] at rel
                  clear hr7 hb7 v0 v1 v2 v3 v4 b0 hlB hlX zX hbX hbX' hbAy Hcall HLr2
                  go_wp2_with fail
                  go_meet
                  case rel => exact rel.out
                  --LB]
                | false =>
                  rw [if_neg (by simp)] at hLr2
                  have hrd2 : RSl 5 80 RVal (fun y => GB + 1 ≤ y ∧ y < WA.heap.size) Wy [.slice RA nr rc] rl := (RSl.fair RVal.fair).below hrd hbAy
                  have rel : Hid (∃ (L : Option Addr) (cp qn : Nat), Value.slice RA nr rc = .slice L Lr.length cp ∧ RSl 5 80 RVal (fun y => (GB + 1 ≤ y ∧ y < WA.heap.size) ∨ (X ≤ y ∧ y < qn)) Wy [.slice L Lr.length cp] Lr ∧ qn ≤ Wy.heap.size ∧ Box Wy X 53 [.int .i64 j, .string fname, .string ftype, .int .i64 fkind, .int .i64 frule] ∧ Below X WI Wy) := by
                    refine ⟨RA, rc, X, by rw [hLr2, Hnr.out], ?_, by omega, zX, hbX⟩
                    rw [hLr2, ← Hnr.out]
                    exact (RSl.fair RVal.fair).mono hrd2 (fun y hy _ => .inl hy)
                  clear hrd2 hLr2 hLl hLs Hsucc zX hbX hbX' hbAy
                  go_wp2_with fail
                  go_meet
                  case rel => exact rel.out
              case rest =>
                --[RS
                clear zX hbX hbX' hbAy hXs hrd hLr2 hLl Hnr
                obtain ⟨L, cp, qn, rfl, hRS, hqn, zX, hbX⟩ := hcut
                obtain ⟨WC, hWC⟩ : ∃ V, V = wc := ⟨_, rfl⟩
                subst hWC
                have hbX' : Below WI.heap.size WI WC := by rw [hX]; exact hbX
                have hw := below_via hbO hbX' hbO.size
                have zG := zO.below hbX' zO.lt
                have hR0 := hRo.below hbX'
                have hD0 : Hid (∀ y, (fun y => (GB + 1 ≤ y ∧ y < WA.heap.size) ∨ (X ≤ y ∧ y < qn)) y → vi.ownBlock ≠ some y ∧ vl.ownBlock ≠ some y) := fun y hy => by
                  refine ⟨fun e => ?_, fun e => ?_⟩
                  · have := hRo.ilt e
                    rw [hX] at this
                    rcases hy with hy | hy <;> omega
                  · have := hRo.llt e
                    rw [hX] at this
                    rcases hy with hy | hy <;> omega
                have HRS := Lib.hid hRS
                clear hRS hbX hbX' hRo zO
                go_wp2_with fail
                go_loopw [191] (fun i wi => ∃ (m : Nat) (vi vl : Value), i = .int .i64 m ∧ m ≤ Lr.length ∧ Rows2 (fun y => GB + 1 ≤ y) (WA.heap.size + 1) wi WA.heap.size vi vl ((P0 ++ (Lr.take m).map (fun v => ((j : Int), v))).map (·.1)) ((P0 ++ (Lr.take m).map (fun v => ((j : Int), v))).map (·.2)) ∧
                    Box wi WA.heap.size 28 [.int .i64 2, .int .i64 0, .string ⟨#[]⟩, vi, vl] ∧ Box wi X 53 [.int .i64 j, .string fname, .string ftype, .int .i64 fkind, .int .i64 frule] ∧ Below WA.heap.size WA wi ∧ Keep (fun y => (GB + 1 ≤ y ∧ y < WA.heap.size) ∨ (X ≤ y ∧ y < qn)) WC wi ∧ Hid (∀ y, (fun y => (GB + 1 ≤ y ∧ y < WA.heap.size) ∨ (X ≤ y ∧ y < qn)) y → vi.ownBlock ≠ some y ∧ vl.ownBlock ≠ some y)) (fun i _ => Lr.length - (intOf i).toNat)
                case atStart => exact ⟨0, vi, vl, rfl, Nat.zero_le _, by simpa using hR0, zG, zX, hw, Keep.refl _ _, hD0⟩
                case round =>
                  clear hR0 zG zX hw hD0 hbO
                  obtain ⟨m, vi, vl, rfl, hm, hR, zG, zX, hw, hK, hD⟩ := hrel
                  by_cases hml : m < Lr.length
                  · --[IN
                    have hRm := (RSl.fair RVal.fair).keep HRS.out hK
                    obtain ⟨lg, lo, rfl, hSl, hlgw⟩ := hRm.base (by go_light; omega)
                    obtain ⟨es, -, hrx, hlies⟩ := hRm.lies hml
                    have htk : P0 ++ (Lr.take (m + 1)).map (fun v => ((j : Int), v)) = (P0 ++ (Lr.take m).map (fun v => ((j : Int), v))) ++ [((j : Int), Lr[m])] := by
                      rw [List.take_succ_eq_append_getElem hml, List.map_append, ← List.append_assoc]; rfl
                    obtain ⟨x, hx⟩ : ∃ x, x = Lr[m] := ⟨_, rfl⟩
                    rw [← hx] at hrx htk
                    obtain ⟨xk, xn, xs, xi, xl⟩ := x
                    obtain ⟨E1, f1, E2, f2, rfl, -, -⟩ := hrx.parts
                    have q0 : wr.cell? ⟨lg, lo + m * 5, none⟩ = some (.int .i64 xk) := hlies.at_ 0 rfl
                    have q1 : wr.cell? ⟨lg, lo + m * 5 + 1, none⟩ = some (.int .i64 xn) := hlies.at_ 1 rfl
                    have q2 : wr.cell? ⟨lg, lo + m * 5 + 2, none⟩ = some (.string xs) := hlies.at_ 2 rfl
                    have q3 : wr.cell? ⟨lg, lo + m * 5 + 3, none⟩ = some (.slice E1 xi.length f1) := hlies.at_ 3 rfl
                    have q4 : wr.cell? ⟨lg, lo + m * 5 + 4, none⟩ = some (.slice E2 xl.length f2) := hlies.at_ 4 rfl
                    obtain ⟨ids, hids⟩ : ∃ l, l = (P0 ++ (Lr.take m).map (fun v => ((j : Int), v))).map (·.1) := ⟨_, rfl⟩
                    obtain ⟨ls, hls⟩ : ∃ l, l = (P0 ++ (Lr.take m).map (fun v => ((j : Int), v))).map (·.2) := ⟨_, rfl⟩
                    have hidl : ids.length ≤ 200000 := by rw [hids]; simp only [List.length_map, List.length_append, List.length_take]; omega
                    have hlsl : ls.length ≤ 200000 := by rw [hls]; simp only [List.length_map, List.length_append, List.length_take]; omega
                    have Hi : Hid ((P0 ++ (Lr.take (m + 1)).map (fun v => ((j : Int), v))).map (·.1) = ids ++ [(j : Int)]) := by show _ = _; rw [htk, List.map_append, ← hids]; rfl
                    have Hl : Hid ((P0 ++ (Lr.take (m + 1)).map (fun v => ((j : Int), v))).map (·.2) = ls ++ [ValueD.mk xk xn xs xi xl]) := by show _ = _; rw [htk, List.map_append, ← hls]; rfl
                    rw [← hids, ← hls] at hR
                    have hSXl : ∀ y, (fun y => (GB + 1 ≤ y ∧ y < WA.heap.size) ∨ (X ≤ y ∧ y < qn)) y → y < wr.heap.size := fun y hy => by
                      have := hK.1
                      have := hw.size
                      rcases hy with hy | hy <;> omega
                    have hnE : vl.ownBlock ≠ some wr.heap.size := fun e => by have := (hR.llt e).2; omega
                    have hn1 : ∀ k, vi.ownBlock = some k → ¬ (fun y => (GB + 1 ≤ y ∧ y < WA.heap.size) ∨ (X ≤ y ∧ y < qn)) k := fun k hk h => (hD.out k h).1 hk
                    have hn5 : ∀ k, vl.ownBlock = some k → ¬ (fun y => (GB + 1 ≤ y ∧ y < WA.heap.size) ∨ (X ≤ y ∧ y < qn)) k := fun k hk h => (hD.out k h).2 hk
                    have hGE : WA.heap.size < wr.heap.size := zG.lt
                    have hXE : X < wr.heap.size := zX.lt
                    have HXr := Lib.hid (RVal.fair.keep hrx (Keep.alloc _ _ (.cells #[.int .i64 xk, .int .i64 xn, .string xs, .slice E1 xi.length f1, .slice E2 xl.length f2] 28)))
                    have hR' := hR.alloc (.cells #[.int .i64 xk, .int .i64 xn, .string xs, .slice E1 xi.length f1, .slice E2 xl.length f2] 28)
                    have zG' := zG.alloc (.cells #[.int .i64 xk, .int .i64 xn, .string xs, .slice E1 xi.length f1, .slice E2 xl.length f2] 28)
                    have zX' := zX.alloc (.cells #[.int .i64 xk, .int .i64 xn, .string xs, .slice E1 xi.length f1, .slice E2 xl.length f2] 28)
                    have zE' : Box (wr.alloc (.cells #[.int .i64 xk, .int .i64 xn, .string xs, .slice E1 xi.length f1, .slice E2 xl.length f2] 28)) wr.heap.size 28 [.int .i64 xk, .int .i64 xn, .string xs, .slice E1 xi.length f1, .slice E2 xl.length f2] := Box.new _ _ _
                    have hw' := hw.alloc hw.size (.cells #[.int .i64 xk, .int .i64 xn, .string xs, .slice E1 xi.length f1, .slice E2 xl.length f2] 28)
                    have hK' := hK.trans (Keep.alloc _ _ (.cells #[.int .i64 xk, .int .i64 xn, .string xs, .slice E1 xi.length f1, .slice E2 xl.length f2] 28))
                    have hsE : (wr.alloc (.cells #[.int .i64 xk, .int .i64 xn, .string xs, .slice E1 xi.length f1, .slice E2 xl.length f2] 28)).heap.size = wr.heap.size + 1 := by simp
                    clear hRm hrx hlies hx htk hids hls hSl hR zG zX hw hK
                    go_upto_region 45 with fail
                    clear q0 q1 q2 q3 q4 hlgw
                    generalize wr.alloc (.cells #[.int .i64 xk, .int .i64 xn, .string xs, .slice E1 xi.length f1, .slice E2 xl.length f2] 28) = W9 at *
                    generalize wr.heap.size = E at *
                    have hR := hR'.drew
                    have zG := zG'.drew
                    have zX := zX'.drew
                    have zE := zE'.drew
                    have hw := below_drew hw'
                    have hdr : E < W9.drew.heap.size := by show E < W9.heap.size; omega
                    have HSXl := Lib.hid hSXl
                    have Hn1 := Lib.hid hn1
                    have Hn5 := Lib.hid hn5
                    have HK9 := Lib.hid (hK'.trans (Keep.drew _ _))
                    replace HXr := Lib.hid (RVal.fair.keep HXr.out (Keep.drew _ _))
                    clear hR' zG' zX' zE' hw' hSXl hn1 hn5 hK' hsE wr
                    have HSK : Hid (∀ W', Box W' WA.heap.size 28 [.int .i64 2, .int .i64 0, .string ⟨#[]⟩, vi, vl] → Box W' X 53 [.int .i64 j, .string fname, .string ftype, .int .i64 fkind, .int .i64 frule] → Box W' E 28 [.int .i64 xk, .int .i64 xn, .string xs, .slice E1 xi.length f1, .slice E2 xl.length f2] → (fun W' => (W'.cell? ⟨(WA.heap.size), 3, none⟩ = some vi ∧ W'.cell? ⟨(WA.heap.size), 4, none⟩ = some vl) ∧ W'.cell? ⟨X, 0, none⟩ = some (.int .i64 j) ∧ (W'.cell? ⟨E, 0, none⟩ = some (.int .i64 xk) ∧ W'.cell? ⟨E, 1, none⟩ = some (.int .i64 xn) ∧ W'.cell? ⟨E, 2, none⟩ = some (.string xs) ∧ W'.cell? ⟨E, 3, none⟩ = some (.slice E1 xi.length f1) ∧ W'.cell? ⟨E, 4, none⟩ = some (.slice E2 xl.length f2))) W') := fun W' h1 h2 h3 => ⟨⟨h1.cell 3, h1.cell 4⟩, h2.cell 0, h3.five⟩
                    have hS := trivial
                    replace hS := HSK.out _ zG zX zE
                    refine late_start (fun W' => (W'.cell? ⟨(WA.heap.size), 3, none⟩ = some vi ∧ W'.cell? ⟨(WA.heap.size), 4, none⟩ = some vl) ∧ W'.cell? ⟨X, 0, none⟩ = some (.int .i64 j) ∧ (W'.cell? ⟨E, 0, none⟩ = some (.int .i64 xk) ∧ W'.cell? ⟨E, 1, none⟩ = some (.int .i64 xn) ∧ W'.cell? ⟨E, 2, none⟩ = some (.string xs) ∧ W'.cell? ⟨E, 3, none⟩ = some (.slice E1 xi.length f1) ∧ W'.cell? ⟨E, 4, none⟩ = some (.slice E2 xl.length f2))) 12 (by kernel_rfl) ?_
                    generalize W9.drew = Wd at hR zG zX zE hw hdr HK9 HXr hS ⊢
                    clear W9
                    refine late_take (i := 0) (v := ?_) rfl (by kernel_rfl) (fun _ _ _ h => h) ⟨by kernel_rfl, ?_⟩ hS ?_
                    rotate_left
                    · (intro w hSw; (try dsimp only at hSw); go_simp; first | done | with_reducible rfl)
                    try simp only [Act.put, List.getElem_toArray, List.getElem_cons_zero, List.getElem_cons_succ, List.setIfInBounds_toArray, List.set_cons_zero, List.set_cons_succ]
                    refine late_take (i := 1) (v := ?_) rfl (by kernel_rfl) (fun _ _ _ h => h) ⟨by kernel_rfl, ?_⟩ hS ?_
                    rotate_left
                    · (intro w hSw; (try dsimp only at hSw); go_simp; first | done | with_reducible rfl)
                    try simp only [Act.put, List.getElem_toArray, List.getElem_cons_zero, List.getElem_cons_succ, List.setIfInBounds_toArray, List.set_cons_zero, List.set_cons_succ]
                    refine late_take (i := 2) (v := ?_) rfl (by kernel_rfl) (fun _ _ _ h => h) ⟨by kernel_rfl, ?_⟩ hS ?_
                    rotate_left
                    · (intro w hSw; (try dsimp only at hSw); go_simp; first | done | with_reducible rfl)
                    try simp only [Act.put, List.getElem_toArray, List.getElem_cons_zero, List.getElem_cons_succ, List.setIfInBounds_toArray, List.set_cons_zero, List.set_cons_succ]
                    refine late_take (i := 3) (v := ?_) rfl (by kernel_rfl) (fun _ _ _ h => h) ⟨by kernel_rfl, ?_⟩ hS ?_
                    rotate_left
                    · (intro w hSw; (try dsimp only at hSw); go_simp; first | done | with_reducible rfl)
                    try simp only [Act.put, List.getElem_toArray, List.getElem_cons_zero, List.getElem_cons_succ, List.setIfInBounds_toArray, List.set_cons_zero, List.set_cons_succ]
                    refine late_take (i := 6) (v := ?_) rfl (by kernel_rfl) (fun _ _ _ h => h) ⟨by kernel_rfl, ?_⟩ hS ?_
                    rotate_left
                    · (intro w hSw; (try dsimp only at hSw); go_simp; first | done | with_reducible rfl)
                    try simp only [Act.put, List.getElem_toArray, List.getElem_cons_zero, List.getElem_cons_succ, List.setIfInBounds_toArray, List.set_cons_zero, List.set_cons_succ]
                    refine late_take (i := 7) (v := ?_) rfl (by kernel_rfl) (fun _ _ _ h => h) ⟨by kernel_rfl, ?_⟩ hS ?_
                    rotate_left
                    · (intro w hSw; (try dsimp only at hSw); go_simp; first | done | with_reducible rfl)
                    try simp only [Act.put, List.getElem_toArray, List.getElem_cons_zero, List.getElem_cons_succ, List.setIfInBounds_toArray, List.set_cons_zero, List.set_cons_succ]
                    refine late_take (i := 8) (v := ?_) rfl (by kernel_rfl) (fun _ _ _ h => h) ⟨by kernel_rfl, ?_⟩ hS ?_
                    rotate_left
                    · (intro w hSw; (try dsimp only at hSw); go_simp; first | done | with_reducible rfl)
                    try simp only [Act.put, List.getElem_toArray, List.getElem_cons_zero, List.getElem_cons_succ, List.setIfInBounds_toArray, List.set_cons_zero, List.set_cons_succ]
                    refine late_two (i := 4) (j := 9) rfl rfl (by kernel_rfl) (fun K hK => ?_) (fun K hK => ?_)
                    · go_simp
                      have hZ1 := Box.newB hw 3 [.int .i64 (j : Int)]
                      try simp only [World.size_alloc] at hZ1
                      replace hR := hR.alloc (.cells #[.int .i64 (j : Int)] 3)
                      replace zG := zG.alloc (.cells #[.int .i64 (j : Int)] 3)
                      replace zX := zX.alloc (.cells #[.int .i64 (j : Int)] 3)
                      replace zE := zE.alloc (.cells #[.int .i64 (j : Int)] 3)
                      (first | (replace hZ2 := hZ2.alloc (.cells #[.int .i64 (j : Int)] 3)) | skip)
                      replace hw := hw.alloc hw.size (.cells #[.int .i64 (j : Int)] 3)
                      replace hS := HSK.out _ zG zX zE
                      refine hK.out _ _ (fun _ => hS) ?_
                      clear hK K
                      try simp only [Act.put, List.getElem_toArray, List.getElem_cons_zero, List.getElem_cons_succ, List.setIfInBounds_toArray, List.set_cons_zero, List.set_cons_succ]
                      refine late_two (i := 5) (j := 9) rfl rfl (by kernel_rfl) (fun K hK => ?_) (fun K hK => ?_)
                      · --[IN1
                        refine step_append _ rfl (.tmp 196) (.tmp 199) rfl sl_ints RInt.fair rfl rfl hR.ids (Src.one (es := [.int .i64 (j : Int)]) (y := (j : Int)) rfl (Ones.of_all rfl) rfl hZ1.lies) (NoT.lt _) (by go_light; simp; omega) hR.hb ?_
                        intro v1 wk1 ho1 hg1 hv1
                        have hR' := hR.push_id ho1 hg1 hv1
                        replace zG := zG.grownR hR.ids (by first | exact .inl (by go_light; omega) | exact .inr (by decide)) hg1
                        replace zX := zX.grownR hR.ids (by first | exact .inl (by go_light; omega) | exact .inr (by decide)) hg1
                        replace zE := zE.grownR hR.ids (by first | exact .inl (by go_light; omega) | exact .inr (by decide)) hg1
                        (first | (replace hZ2 := hZ2.grownR hR.ids (.inr (by decide)) hg1) | skip)
                        replace hw := below_grown hw hg1 hw.size (fun g' h => by go_light; have := (hR.ilt h).1; omega)
                        replace hR := hR'
                        clear hR'
                        replace hS := HSK.out _ zG zX zE
                        refine hK.out _ _ (fun _ => hS) ?_
                        clear hK K
                        try simp only [Act.put, List.getElem_toArray, List.getElem_cons_zero, List.getElem_cons_succ, List.setIfInBounds_toArray, List.set_cons_zero, List.set_cons_succ]
                        refine late_take (i := 11) (v := ?_) rfl (by kernel_rfl) (fun _ _ _ h => h) ⟨by kernel_rfl, ?_⟩ hS ?_
                        rotate_left
                        · (intro w hSw; (try dsimp only at hSw); go_simp; first | done | with_reducible rfl)
                        try simp only [Act.put, List.getElem_toArray, List.getElem_cons_zero, List.getElem_cons_succ, List.setIfInBounds_toArray, List.set_cons_zero, List.set_cons_succ]
                        refine late_one (i := 9) rfl (by kernel_rfl) (fun K hK => ?_)
                        go_simp
                        have hZ2 := Box.newB hw 28 [.int .i64 xk, .int .i64 xn, .string xs, .slice E1 xi.length f1, .slice E2 xl.length f2]
                        try simp only [World.size_alloc] at hZ2
                        replace hR := hR.alloc (.cells [.int .i64 xk, .int .i64 xn, .string xs, .slice E1 xi.length f1, .slice E2 xl.length f2].toArray 28)
                        replace zG := zG.alloc (.cells [.int .i64 xk, .int .i64 xn, .string xs, .slice E1 xi.length f1, .slice E2 xl.length f2].toArray 28)
                        replace zX := zX.alloc (.cells [.int .i64 xk, .int .i64 xn, .string xs, .slice E1 xi.length f1, .slice E2 xl.length f2].toArray 28)
                        replace zE := zE.alloc (.cells [.int .i64 xk, .int .i64 xn, .string xs, .slice E1 xi.length f1, .slice E2 xl.length f2].toArray 28)
                        (first | (replace hZ1 := hZ1.alloc (.cells [.int .i64 xk, .int .i64 xn, .string xs, .slice E1 xi.length f1, .slice E2 xl.length f2].toArray 28)) | skip)
                        replace hw := hw.alloc hw.size (.cells [.int .i64 xk, .int .i64 xn, .string xs, .slice E1 xi.length f1, .slice E2 xl.length f2].toArray 28)
                        replace hS := HSK.out _ zG zX zE
                        refine hK.out _ _ (fun _ => hS) ?_
                        clear hK K
                        try simp only [Act.put, List.getElem_toArray, List.getElem_cons_zero, List.getElem_cons_succ, List.setIfInBounds_toArray, List.set_cons_zero, List.set_cons_succ]
                        refine late_one (i := 10) rfl (by kernel_rfl) (fun K hK => ?_)
                        refine step_append _ rfl (.tmp 202) (.tmp 204) rfl sl_vals RVal.fair rfl rfl hR.lrow (Src.one (es := [.int .i64 xk, .int .i64 xn, .string xs, .slice E1 xi.length f1, .slice E2 xl.length f2]) (y := ValueD.mk xk xn xs xi xl) rfl (Ones.of_all rfl) (hR.apart2 (RVal.fair.keep HXr.out (by first | exact ((Keep.alloc _ _ _).trans (Keep.of_grown hg1 Hn1.out)).trans (Keep.alloc _ _ _) | exact ((Keep.alloc _ _ _).trans (Keep.alloc _ _ _)).trans (Keep.of_grown hg1 Hn1.out))) ?ap) hZ2.lies) (fun _ h => h.2) (by go_light; simp; omega) hR.hb ?_
                        case ap =>
                          intro y hy
                          have hyl := HSXl.out y hy
                          refine ⟨by rcases hy with hy | hy <;> (go_light; omega), fun e => ?_, fun e => (hD.out y hy).2 e, by show GB + 1 ≤ y; rcases hy with hy | hy <;> (go_light; omega)⟩
                          rcases hv1 with h | h
                          · exact (hD.out y hy).1 (h ▸ e)
                          · rw [h] at e
                            have e' := Option.some.inj e
                            try simp at e'
                            go_light
                            omega
                        intro v5 w5 ho5 hg5 hv5
                        have hR' := hR.push_l ho5 hg5 hv5
                        replace zG := zG.grownR hR.l (.inl (by go_light; omega)) hg5
                        replace zX := zX.grownR hR.l (.inr (by decide)) hg5
                        replace hw := below_grown hw hg5 hw.size (fun g' h => by go_light; have := (hR.llt h).1; omega)
                        replace hR := hR'
                        clear hR'
                        replace zE := zE.grown hg5 hnE
                        replace hS := HSK.out _ zG zX zE
                        have fz3 := zG.frozen 3
                        have cz3 := zG.cell 3
                        have fz4 := zG.frozen 4
                        have cz4 := zG.cell 4
                        have lz := zG.lt
                        simp only [List.getElem?_cons_zero, List.getElem?_cons_succ] at cz3 cz4
                        obtain ⟨R1, p1, rfl, _⟩ := hR.ids.form
                        obtain ⟨R2, p2, rfl, _⟩ := hR.l.form
                        refine hK.out _ _ (fun _ => hS) ?_
                        clear hK K
                        try simp only [Act.put, List.getElem_toArray, List.getElem_cons_zero, List.getElem_cons_succ, List.setIfInBounds_toArray, List.set_cons_zero, List.set_cons_succ]
                        refine late_one (i := 12) rfl (by kernel_rfl) (fun K hK => ?_)
                        go_simp
                        refine hK.out _ _ (fun h => absurd h (by decide)) ?_
                        clear hK K
                        try simp only [Act.put, List.getElem_toArray, List.getElem_cons_zero, List.getElem_cons_succ, List.setIfInBounds_toArray, List.set_cons_zero, List.set_cons_succ]
                        refine late_one (i := 13) rfl (by kernel_rfl) (fun K hK => ?_)
                        go_simp
                        refine hK.out _ _ (fun h => absurd h (by decide)) ?_
                        clear hK K
                        try simp only [Act.put, List.getElem_toArray, List.getElem_cons_zero, List.getElem_cons_succ, List.setIfInBounds_toArray, List.set_cons_zero, List.set_cons_succ]
                        refine late_one (i := 14) rfl (by kernel_rfl) (fun K hK => ?_)
                        go_simp
                        refine hK.out _ _ (fun h => absurd h (by decide)) ?_
                        clear hK K
                        try simp only [Act.put, List.getElem_toArray, List.getElem_cons_zero, List.getElem_cons_succ, List.setIfInBounds_toArray, List.set_cons_zero, List.set_cons_succ]
                        refine late_done (by kernel_rfl) ?_ _
                        have hKe : Keep (fun y => (GB + 1 ≤ y ∧ y < WA.heap.size) ∨ (X ≤ y ∧ y < qn)) WC w5 := by first | exact (((HK9.out.trans (Keep.alloc _ _ _)).trans (Keep.of_grown hg1 Hn1.out)).trans (Keep.alloc _ _ _)).trans (Keep.of_grown hg5 Hn5.out) | exact (((HK9.out.trans (Keep.alloc _ _ _)).trans (Keep.alloc _ _ _)).trans (Keep.of_grown hg1 Hn1.out)).trans (Keep.of_grown hg5 Hn5.out)
                        have hDe : Hid (∀ y, (fun y => (GB + 1 ≤ y ∧ y < WA.heap.size) ∨ (X ≤ y ∧ y < qn)) y → (Value.slice R1 (ids.length + 1) p1).ownBlock ≠ some y ∧ (Value.slice R2 (ls.length + 1) p2).ownBlock ≠ some y) := fun y hy => by
                          have hyl := HSXl.out y hy
                          have hs1 := hg1.size
                          try simp at hs1
                          refine ⟨fun e => ?_, fun e => ?_⟩
                          · have e1 := (own_len R1 (ids ++ [(j : Int)]).length _ p1).trans e
                            rcases hv1 with h | h
                            · exact (hD.out y hy).1 (h.symm.trans e1)
                            · have e' := Option.some.inj (h.symm.trans e1)
                              try simp at e'
                              go_light
                              omega
                          · have e1 := (own_len R2 (ls ++ [ValueD.mk xk xn xs xi xl]).length _ p2).trans e
                            rcases hv5 with h | h
                            · exact (hD.out y hy).2 (h.symm.trans e1)
                            · have e' := Option.some.inj (h.symm.trans e1)
                              try simp at e'
                              go_light
                              omega
                        have hnG : ¬ (fun y => (GB + 1 ≤ y ∧ y < WA.heap.size) ∨ (X ≤ y ∧ y < qn)) WA.heap.size := fun h => by rcases h with h | h <;> (go_light; omega)
                        simp only [List.length_append, List.length_map, List.length_cons, List.length_nil, Nat.zero_add] at hR
                        replace hR := (hR.setCell 3 (.slice R1 (ids.length + 1) p1)).setCell 4 (.slice R2 (ls.length + 1) p2)
                        replace zG := (zG.set_ 3 (.slice R1 (ids.length + 1) p1)).set_ 4 (.slice R2 (ls.length + 1) p2)
                        simp only [List.set_cons_zero, List.set_cons_succ, List.length_append, List.length_map, List.length_cons, List.length_nil, Nat.zero_add] at zG
                        replace zX := zX.far (p := ⟨(WA.heap.size), 3, none⟩) (by first | (simp; done) | (simp; omega)) (.slice R1 (ids.length + 1) p1)
                        replace zX := zX.far (p := ⟨(WA.heap.size), 4, none⟩) (by first | (simp; done) | (simp; omega)) (.slice R2 (ls.length + 1) p2)
                        replace hw := (hw.setCell (p := ⟨(WA.heap.size), 3, none⟩) (by first | (simp; done) | (simp; omega)) (.slice R1 (ids.length + 1) p1)).setCell (p := ⟨(WA.heap.size), 4, none⟩) (by first | (simp; done) | (simp; omega)) (.slice R2 (ls.length + 1) p2)
                        clear hS fz3 cz3 fz4 cz4 lz hg5 hv5 ho5 hg1 hv1 ho1
                        have hKf := (hKe.trans (Keep.setCell _ (a := ⟨WA.heap.size, 3, none⟩) (.slice R1 (ids.length + 1) p1) hnG)).trans (Keep.setCell _ (a := ⟨WA.heap.size, 4, none⟩) (.slice R2 (ls.length + 1) p2) hnG)
                        clear hKe hnG zE
                        go_wp2_with fail
                        go_roundw
                        case rel => exact ⟨m + 1, _, _, by go_num, by go_light; omega, by rw [Hi.out, Hl.out]; exact hR, zG, zX, hw, hKf, hDe⟩
                        case measure => go_light; simp [intOf]; omega
                        --IN1]
                      · --[IN2
                        go_simp
                        have hZ2 := Box.newB hw 28 [.int .i64 xk, .int .i64 xn, .string xs, .slice E1 xi.length f1, .slice E2 xl.length f2]
                        try simp only [World.size_alloc] at hZ2
                        replace hR := hR.alloc (.cells [.int .i64 xk, .int .i64 xn, .string xs, .slice E1 xi.length f1, .slice E2 xl.length f2].toArray 28)
                        replace zG := zG.alloc (.cells [.int .i64 xk, .int .i64 xn, .string xs, .slice E1 xi.length f1, .slice E2 xl.length f2].toArray 28)
                        replace zX := zX.alloc (.cells [.int .i64 xk, .int .i64 xn, .string xs, .slice E1 xi.length f1, .slice E2 xl.length f2].toArray 28)
                        replace zE := zE.alloc (.cells [.int .i64 xk, .int .i64 xn, .string xs, .slice E1 xi.length f1, .slice E2 xl.length f2].toArray 28)
                        (first | (replace hZ1 := hZ1.alloc (.cells [.int .i64 xk, .int .i64 xn, .string xs, .slice E1 xi.length f1, .slice E2 xl.length f2].toArray 28)) | skip)
                        replace hw := hw.alloc hw.size (.cells [.int .i64 xk, .int .i64 xn, .string xs, .slice E1 xi.length f1, .slice E2 xl.length f2].toArray 28)
                        replace hS := HSK.out _ zG zX zE
                        refine hK.out _ _ (fun _ => hS) ?_
                        clear hK K
                        try simp only [Act.put, List.getElem_toArray, List.getElem_cons_zero, List.getElem_cons_succ, List.setIfInBounds_toArray, List.set_cons_zero, List.set_cons_succ]
                        refine late_one (i := 5) rfl (by kernel_rfl) (fun K hK => ?_)
                        refine step_append _ rfl (.tmp 196) (.tmp 199) rfl sl_ints RInt.fair rfl rfl hR.ids (Src.one (es := [.int .i64 (j : Int)]) (y := (j : Int)) rfl (Ones.of_all rfl) rfl hZ1.lies) (NoT.lt _) (by go_light; simp; omega) hR.hb ?_
                        intro v1 wk1 ho1 hg1 hv1
                        have hR' := hR.push_id ho1 hg1 hv1
                        replace zG := zG.grownR hR.ids (by first | exact .inl (by go_light; omega) | exact .inr (by decide)) hg1
                        replace zX := zX.grownR hR.ids (by first | exact .inl (by go_light; omega) | exact .inr (by decide)) hg1
                        replace zE := zE.grownR hR.ids (by first | exact .inl (by go_light; omega) | exact .inr (by decide)) hg1
                        (first | (replace hZ2 := hZ2.grownR hR.ids (.inr (by decide)) hg1) | skip)
                        replace hw := below_grown hw hg1 hw.size (fun g' h => by go_light; have := (hR.ilt h).1; omega)
                        replace hR := hR'
                        clear hR'
                        replace hS := HSK.out _ zG zX zE
                        refine hK.out _ _ (fun _ => hS) ?_
                        clear hK K
                        try simp only [Act.put, List.getElem_toArray, List.getElem_cons_zero, List.getElem_cons_succ, List.setIfInBounds_toArray, List.set_cons_zero, List.set_cons_succ]
                        refine late_take (i := 11) (v := ?_) rfl (by kernel_rfl) (fun _ _ _ h => h) ⟨by kernel_rfl, ?_⟩ hS ?_
                        rotate_left
                        · (intro w hSw; (try dsimp only at hSw); go_simp; first | done | with_reducible rfl)
                        try simp only [Act.put, List.getElem_toArray, List.getElem_cons_zero, List.getElem_cons_succ, List.setIfInBounds_toArray, List.set_cons_zero, List.set_cons_succ]
                        refine late_one (i := 10) rfl (by kernel_rfl) (fun K hK => ?_)
                        refine step_append _ rfl (.tmp 202) (.tmp 204) rfl sl_vals RVal.fair rfl rfl hR.lrow (Src.one (es := [.int .i64 xk, .int .i64 xn, .string xs, .slice E1 xi.length f1, .slice E2 xl.length f2]) (y := ValueD.mk xk xn xs xi xl) rfl (Ones.of_all rfl) (hR.apart2 (RVal.fair.keep HXr.out (by first | exact ((Keep.alloc _ _ _).trans (Keep.of_grown hg1 Hn1.out)).trans (Keep.alloc _ _ _) | exact ((Keep.alloc _ _ _).trans (Keep.alloc _ _ _)).trans (Keep.of_grown hg1 Hn1.out))) ?ap) hZ2.lies) (fun _ h => h.2) (by go_light; simp; omega) hR.hb ?_
                        case ap =>
                          intro y hy
                          have hyl := HSXl.out y hy
                          refine ⟨by rcases hy with hy | hy <;> (go_light; omega), fun e => ?_, fun e => (hD.out y hy).2 e, by show GB + 1 ≤ y; rcases hy with hy | hy <;> (go_light; omega)⟩
                          rcases hv1 with h | h
                          · exact (hD.out y hy).1 (h ▸ e)
                          · rw [h] at e
                            have e' := Option.some.inj e
                            try simp at e'
                            go_light
                            omega
                        intro v5 w5 ho5 hg5 hv5
                        have hR' := hR.push_l ho5 hg5 hv5
                        replace zG := zG.grownR hR.l (.inl (by go_light; omega)) hg5
                        replace zX := zX.grownR hR.l (.inr (by decide)) hg5
                        replace hw := below_grown hw hg5 hw.size (fun g' h => by go_light; have := (hR.llt h).1; omega)
                        replace hR := hR'
                        clear hR'
                        replace zE := zE.grown hg5 hnE
                        replace hS := HSK.out _ zG zX zE
                        have fz3 := zG.frozen 3
                        have cz3 := zG.cell 3
                        have fz4 := zG.frozen 4
                        have cz4 := zG.cell 4
                        have lz := zG.lt
                        simp only [List.getElem?_cons_zero, List.getElem?_cons_succ] at cz3 cz4
                        obtain ⟨R1, p1, rfl, _⟩ := hR.ids.form
                        obtain ⟨R2, p2, rfl, _⟩ := hR.l.form
                        refine hK.out _ _ (fun _ => hS) ?_
                        clear hK K
                        try simp only [Act.put, List.getElem_toArray, List.getElem_cons_zero, List.getElem_cons_succ, List.setIfInBounds_toArray, List.set_cons_zero, List.set_cons_succ]
                        refine late_one (i := 12) rfl (by kernel_rfl) (fun K hK => ?_)
                        go_simp
                        refine hK.out _ _ (fun h => absurd h (by decide)) ?_
                        clear hK K
                        try simp only [Act.put, List.getElem_toArray, List.getElem_cons_zero, List.getElem_cons_succ, List.setIfInBounds_toArray, List.set_cons_zero, List.set_cons_succ]
                        refine late_one (i := 13) rfl (by kernel_rfl) (fun K hK => ?_)
                        go_simp
                        refine hK.out _ _ (fun h => absurd h (by decide)) ?_
                        clear hK K
                        try simp only [Act.put, List.getElem_toArray, List.getElem_cons_zero, List.getElem_cons_succ, List.setIfInBounds_toArray, List.set_cons_zero, List.set_cons_succ]
                        refine late_one (i := 14) rfl (by kernel_rfl) (fun K hK => ?_)
                        go_simp
                        refine hK.out _ _ (fun h => absurd h (by decide)) ?_
                        clear hK K
                        try simp only [Act.put, List.getElem_toArray, List.getElem_cons_zero, List.getElem_cons_succ, List.setIfInBounds_toArray, List.set_cons_zero, List.set_cons_succ]
                        refine late_done (by kernel_rfl) ?_ _
                        have hKe : Keep (fun y => (GB + 1 ≤ y ∧ y < WA.heap.size) ∨ (X ≤ y ∧ y < qn)) WC w5 := by first | exact (((HK9.out.trans (Keep.alloc _ _ _)).trans (Keep.of_grown hg1 Hn1.out)).trans (Keep.alloc _ _ _)).trans (Keep.of_grown hg5 Hn5.out) | exact (((HK9.out.trans (Keep.alloc _ _ _)).trans (Keep.alloc _ _ _)).trans (Keep.of_grown hg1 Hn1.out)).trans (Keep.of_grown hg5 Hn5.out)
                        have hDe : Hid (∀ y, (fun y => (GB + 1 ≤ y ∧ y < WA.heap.size) ∨ (X ≤ y ∧ y < qn)) y → (Value.slice R1 (ids.length + 1) p1).ownBlock ≠ some y ∧ (Value.slice R2 (ls.length + 1) p2).ownBlock ≠ some y) := fun y hy => by
                          have hyl := HSXl.out y hy
                          have hs1 := hg1.size
                          try simp at hs1
                          refine ⟨fun e => ?_, fun e => ?_⟩
                          · have e1 := (own_len R1 (ids ++ [(j : Int)]).length _ p1).trans e
                            rcases hv1 with h | h
                            · exact (hD.out y hy).1 (h.symm.trans e1)
                            · have e' := Option.some.inj (h.symm.trans e1)
                              try simp at e'
                              go_light
                              omega
                          · have e1 := (own_len R2 (ls ++ [ValueD.mk xk xn xs xi xl]).length _ p2).trans e
                            rcases hv5 with h | h
                            · exact (hD.out y hy).2 (h.symm.trans e1)
                            · have e' := Option.some.inj (h.symm.trans e1)
                              try simp at e'
                              go_light
                              omega
                        have hnG : ¬ (fun y => (GB + 1 ≤ y ∧ y < WA.heap.size) ∨ (X ≤ y ∧ y < qn)) WA.heap.size := fun h => by rcases h with h | h <;> (go_light; omega)
                        simp only [List.length_append, List.length_map, List.length_cons, List.length_nil, Nat.zero_add] at hR
                        replace hR := (hR.setCell 3 (.slice R1 (ids.length + 1) p1)).setCell 4 (.slice R2 (ls.length + 1) p2)
                        replace zG := (zG.set_ 3 (.slice R1 (ids.length + 1) p1)).set_ 4 (.slice R2 (ls.length + 1) p2)
                        simp only [List.set_cons_zero, List.set_cons_succ, List.length_append, List.length_map, List.length_cons, List.length_nil, Nat.zero_add] at zG
                        replace zX := zX.far (p := ⟨(WA.heap.size), 3, none⟩) (by first | (simp; done) | (simp; omega)) (.slice R1 (ids.length + 1) p1)
                        replace zX := zX.far (p := ⟨(WA.heap.size), 4, none⟩) (by first | (simp; done) | (simp; omega)) (.slice R2 (ls.length + 1) p2)
                        replace hw := (hw.setCell (p := ⟨(WA.heap.size), 3, none⟩) (by first | (simp; done) | (simp; omega)) (.slice R1 (ids.length + 1) p1)).setCell (p := ⟨(WA.heap.size), 4, none⟩) (by first | (simp; done) | (simp; omega)) (.slice R2 (ls.length + 1) p2)
                        clear hS fz3 cz3 fz4 cz4 lz hg5 hv5 ho5 hg1 hv1 ho1
                        have hKf := (hKe.trans (Keep.setCell _ (a := ⟨WA.heap.size, 3, none⟩) (.slice R1 (ids.length + 1) p1) hnG)).trans (Keep.setCell _ (a := ⟨WA.heap.size, 4, none⟩) (.slice R2 (ls.length + 1) p2) hnG)
                        clear hKe hnG zE
                        go_wp2_with fail
                        go_roundw
                        case rel => exact ⟨m + 1, _, _, by go_num, by go_light; omega, by rw [Hi.out, Hl.out]; exact hR, zG, zX, hw, hKf, hDe⟩
                        case measure => go_light; simp [intOf]; omega
                        --IN2]
                    · --[IN3
                      go_simp
                      have hZ2 := Box.newB hw 28 [.int .i64 xk, .int .i64 xn, .string xs, .slice E1 xi.length f1, .slice E2 xl.length f2]
                      try simp only [World.size_alloc] at hZ2
                      replace hR := hR.alloc (.cells [.int .i64 xk, .int .i64 xn, .string xs, .slice E1 xi.length f1, .slice E2 xl.length f2].toArray 28)
                      replace zG := zG.alloc (.cells [.int .i64 xk, .int .i64 xn, .string xs, .slice E1 xi.length f1, .slice E2 xl.length f2].toArray 28)
                      replace zX := zX.alloc (.cells [.int .i64 xk, .int .i64 xn, .string xs, .slice E1 xi.length f1, .slice E2 xl.length f2].toArray 28)
                      replace zE := zE.alloc (.cells [.int .i64 xk, .int .i64 xn, .string xs, .slice E1 xi.length f1, .slice E2 xl.length f2].toArray 28)
                      (first | (replace hZ1 := hZ1.alloc (.cells [.int .i64 xk, .int .i64 xn, .string xs, .slice E1 xi.length f1, .slice E2 xl.length f2].toArray 28)) | skip)
                      replace hw := hw.alloc hw.size (.cells [.int .i64 xk, .int .i64 xn, .string xs, .slice E1 xi.length f1, .slice E2 xl.length f2].toArray 28)
                      replace hS := HSK.out _ zG zX zE
                      refine hK.out _ _ (fun _ => hS) ?_
                      clear hK K
                      try simp only [Act.put, List.getElem_toArray, List.getElem_cons_zero, List.getElem_cons_succ, List.setIfInBounds_toArray, List.set_cons_zero, List.set_cons_succ]
                      refine late_one (i := 4) rfl (by kernel_rfl) (fun K hK => ?_)
                      go_simp
                      have hZ1 := Box.newB hw 3 [.int .i64 (j : Int)]
                      try simp only [World.size_alloc] at hZ1
                      replace hR := hR.alloc (.cells #[.int .i64 (j : Int)] 3)
                      replace zG := zG.alloc (.cells #[.int .i64 (j : Int)] 3)
                      replace zX := zX.alloc (.cells #[.int .i64 (j : Int)] 3)
                      replace zE := zE.alloc (.cells #[.int .i64 (j : Int)] 3)
                      (first | (replace hZ2 := hZ2.alloc (.cells #[.int .i64 (j : Int)] 3)) | skip)
                      replace hw := hw.alloc hw.size (.cells #[.int .i64 (j : Int)] 3)
                      replace hS := HSK.out _ zG zX zE
                      refine hK.out _ _ (fun _ => hS) ?_
                      clear hK K
                      try simp only [Act.put, List.getElem_toArray, List.getElem_cons_zero, List.getElem_cons_succ, List.setIfInBounds_toArray, List.set_cons_zero, List.set_cons_succ]
                      refine late_one (i := 5) rfl (by kernel_rfl) (fun K hK => ?_)
                      refine step_append _ rfl (.tmp 196) (.tmp 199) rfl sl_ints RInt.fair rfl rfl hR.ids (Src.one (es := [.int .i64 (j : Int)]) (y := (j : Int)) rfl (Ones.of_all rfl) rfl hZ1.lies) (NoT.lt _) (by go_light; simp; omega) hR.hb ?_
                      intro v1 wk1 ho1 hg1 hv1
                      have hR' := hR.push_id ho1 hg1 hv1
                      replace zG := zG.grownR hR.ids (by first | exact .inl (by go_light; omega) | exact .inr (by decide)) hg1
                      replace zX := zX.grownR hR.ids (by first | exact .inl (by go_light; omega) | exact .inr (by decide)) hg1
                      replace zE := zE.grownR hR.ids (by first | exact .inl (by go_light; omega) | exact .inr (by decide)) hg1
                      (first | (replace hZ2 := hZ2.grownR hR.ids (.inr (by decide)) hg1) | skip)
                      replace hw := below_grown hw hg1 hw.size (fun g' h => by go_light; have := (hR.ilt h).1; omega)
                      replace hR := hR'
                      clear hR'
                      replace hS := HSK.out _ zG zX zE
                      refine hK.out _ _ (fun _ => hS) ?_
                      clear hK K
                      try simp only [Act.put, List.getElem_toArray, List.getElem_cons_zero, List.getElem_cons_succ, List.setIfInBounds_toArray, List.set_cons_zero, List.set_cons_succ]
                      refine late_take (i := 11) (v := ?_) rfl (by kernel_rfl) (fun _ _ _ h => h) ⟨by kernel_rfl, ?_⟩ hS ?_
                      rotate_left
                      · (intro w hSw; (try dsimp only at hSw); go_simp; first | done | with_reducible rfl)
                      try simp only [Act.put, List.getElem_toArray, List.getElem_cons_zero, List.getElem_cons_succ, List.setIfInBounds_toArray, List.set_cons_zero, List.set_cons_succ]
                      refine late_one (i := 10) rfl (by kernel_rfl) (fun K hK => ?_)
                      refine step_append _ rfl (.tmp 202) (.tmp 204) rfl sl_vals RVal.fair rfl rfl hR.lrow (Src.one (es := [.int .i64 xk, .int .i64 xn, .string xs, .slice E1 xi.length f1, .slice E2 xl.length f2]) (y := ValueD.mk xk xn xs xi xl) rfl (Ones.of_all rfl) (hR.apart2 (RVal.fair.keep HXr.out (by first | exact ((Keep.alloc _ _ _).trans (Keep.of_grown hg1 Hn1.out)).trans (Keep.alloc _ _ _) | exact ((Keep.alloc _ _ _).trans (Keep.alloc _ _ _)).trans (Keep.of_grown hg1 Hn1.out))) ?ap) hZ2.lies) (fun _ h => h.2) (by go_light; simp; omega) hR.hb ?_
                      case ap =>
                        intro y hy
                        have hyl := HSXl.out y hy
                        refine ⟨by rcases hy with hy | hy <;> (go_light; omega), fun e => ?_, fun e => (hD.out y hy).2 e, by show GB + 1 ≤ y; rcases hy with hy | hy <;> (go_light; omega)⟩
                        rcases hv1 with h | h
                        · exact (hD.out y hy).1 (h ▸ e)
                        · rw [h] at e
                          have e' := Option.some.inj e
                          try simp at e'
                          go_light
                          omega
                      intro v5 w5 ho5 hg5 hv5
                      have hR' := hR.push_l ho5 hg5 hv5
                      replace zG := zG.grownR hR.l (.inl (by go_light; omega)) hg5
                      replace zX := zX.grownR hR.l (.inr (by decide)) hg5
                      replace hw := below_grown hw hg5 hw.size (fun g' h => by go_light; have := (hR.llt h).1; omega)
                      replace hR := hR'
                      clear hR'
                      replace zE := zE.grown hg5 hnE
                      replace hS := HSK.out _ zG zX zE
                      have fz3 := zG.frozen 3
                      have cz3 := zG.cell 3
                      have fz4 := zG.frozen 4
                      have cz4 := zG.cell 4
                      have lz := zG.lt
                      simp only [List.getElem?_cons_zero, List.getElem?_cons_succ] at cz3 cz4
                      obtain ⟨R1, p1, rfl, _⟩ := hR.ids.form
                      obtain ⟨R2, p2, rfl, _⟩ := hR.l.form
                      refine hK.out _ _ (fun _ => hS) ?_
                      clear hK K
                      try simp only [Act.put, List.getElem_toArray, List.getElem_cons_zero, List.getElem_cons_succ, List.setIfInBounds_toArray, List.set_cons_zero, List.set_cons_succ]
                      refine late_one (i := 12) rfl (by kernel_rfl) (fun K hK => ?_)
                      go_simp
                      refine hK.out _ _ (fun h => absurd h (by decide)) ?_
                      clear hK K
                      try simp only [Act.put, List.getElem_toArray, List.getElem_cons_zero, List.getElem_cons_succ, List.setIfInBounds_toArray, List.set_cons_zero, List.set_cons_succ]
                      refine late_one (i := 13) rfl (by kernel_rfl) (fun K hK => ?_)
                      go_simp
                      refine hK.out _ _ (fun h => absurd h (by decide)) ?_
                      clear hK K
                      try simp only [Act.put, List.getElem_toArray, List.getElem_cons_zero, List.getElem_cons_succ, List.setIfInBounds_toArray, List.set_cons_zero, List.set_cons_succ]
                      refine late_one (i := 14) rfl (by kernel_rfl) (fun K hK => ?_)
                      go_simp
                      refine hK.out _ _ (fun h => absurd h (by decide)) ?_
                      clear hK K
                      try simp only [Act.put, List.getElem_toArray, List.getElem_cons_zero, List.getElem_cons_succ, List.setIfInBounds_toArray, List.set_cons_zero, List.set_cons_succ]
                      refine late_done (by kernel_rfl) ?_ _
                      have hKe : Keep (fun y => (GB + 1 ≤ y ∧ y < WA.heap.size) ∨ (X ≤ y ∧ y < qn)) WC w5 := by first | exact (((HK9.out.trans (Keep.alloc _ _ _)).trans (Keep.of_grown hg1 Hn1.out)).trans (Keep.alloc _ _ _)).trans (Keep.of_grown hg5 Hn5.out) | exact (((HK9.out.trans (Keep.alloc _ _ _)).trans (Keep.alloc _ _ _)).trans (Keep.of_grown hg1 Hn1.out)).trans (Keep.of_grown hg5 Hn5.out)
                      have hDe : Hid (∀ y, (fun y => (GB + 1 ≤ y ∧ y < WA.heap.size) ∨ (X ≤ y ∧ y < qn)) y → (Value.slice R1 (ids.length + 1) p1).ownBlock ≠ some y ∧ (Value.slice R2 (ls.length + 1) p2).ownBlock ≠ some y) := fun y hy => by
                        have hyl := HSXl.out y hy
                        have hs1 := hg1.size
                        try simp at hs1
                        refine ⟨fun e => ?_, fun e => ?_⟩
                        · have e1 := (own_len R1 (ids ++ [(j : Int)]).length _ p1).trans e
                          rcases hv1 with h | h
                          · exact (hD.out y hy).1 (h.symm.trans e1)
                          · have e' := Option.some.inj (h.symm.trans e1)
                            try simp at e'
                            go_light
                            omega
                        · have e1 := (own_len R2 (ls ++ [ValueD.mk xk xn xs xi xl]).length _ p2).trans e
                          rcases hv5 with h | h
                          · exact (hD.out y hy).2 (h.symm.trans e1)
                          · have e' := Option.some.inj (h.symm.trans e1)
                            try simp at e'
                            go_light
                            omega
                      have hnG : ¬ (fun y => (GB + 1 ≤ y ∧ y < WA.heap.size) ∨ (X ≤ y ∧ y < qn)) WA.heap.size := fun h => by rcases h with h | h <;> (go_light; omega)
                      simp only [List.length_append, List.length_map, List.length_cons, List.length_nil, Nat.zero_add] at hR
                      replace hR := (hR.setCell 3 (.slice R1 (ids.length + 1) p1)).setCell 4 (.slice R2 (ls.length + 1) p2)
                      replace zG := (zG.set_ 3 (.slice R1 (ids.length + 1) p1)).set_ 4 (.slice R2 (ls.length + 1) p2)
                      simp only [List.set_cons_zero, List.set_cons_succ, List.length_append, List.length_map, List.length_cons, List.length_nil, Nat.zero_add] at zG
                      replace zX := zX.far (p := ⟨(WA.heap.size), 3, none⟩) (by first | (simp; done) | (simp; omega)) (.slice R1 (ids.length + 1) p1)
                      replace zX := zX.far (p := ⟨(WA.heap.size), 4, none⟩) (by first | (simp; done) | (simp; omega)) (.slice R2 (ls.length + 1) p2)
                      replace hw := (hw.setCell (p := ⟨(WA.heap.size), 3, none⟩) (by first | (simp; done) | (simp; omega)) (.slice R1 (ids.length + 1) p1)).setCell (p := ⟨(WA.heap.size), 4, none⟩) (by first | (simp; done) | (simp; omega)) (.slice R2 (ls.length + 1) p2)
                      clear hS fz3 cz3 fz4 cz4 lz hg5 hv5 ho5 hg1 hv1 ho1
                      have hKf := (hKe.trans (Keep.setCell _ (a := ⟨WA.heap.size, 3, none⟩) (.slice R1 (ids.length + 1) p1) hnG)).trans (Keep.setCell _ (a := ⟨WA.heap.size, 4, none⟩) (.slice R2 (ls.length + 1) p2) hnG)
                      clear hKe hnG zE
                      go_wp2_with fail
                      go_roundw
                      case rel => exact ⟨m + 1, _, _, by go_num, by go_light; omega, by rw [Hi.out, Hl.out]; exact hR, zG, zX, hw, hKf, hDe⟩
                      case measure => go_light; simp [intOf]; omega
                      --IN3]
                    --IN]
                  · have hall : Lr.take m = Lr := List.take_of_length_le (by go_light; omega)
                    rw [hall] at hR
                    go_wp2_with fail
                    go_roundw
                    case rel => exact ⟨n + 1, vi, vl, by go_num, by go_light; omega, by rw [Hsucc.out]; exact hR, zG, hw⟩
                    case measure => go_light; simp [intOf]; omega
                --RS]
            --RB]
          · --[FIN
            have hle := HLen.out n hn
            have hall : fillTo b t ai al n = t.fields.flatMap (filledGo b 4 ai al) := by unfold fillTo; rw [List.take_of_length_le (by go_light; omega)]
            rw [hall] at hRo hle
            obtain ⟨v, hv⟩ : ∃ v, v = filledF b 4 t ai al := ⟨_, rfl⟩
            obtain ⟨L, hL⟩ : ∃ L, L = t.fields.flatMap (filledGo b 4 ai al) := ⟨_, rfl⟩
            have hv2 : v = .mk 2 0 ⟨#[]⟩ (L.map (·.1)) (L.map (·.2)) := by rw [hv, hL]; rfl
            rw [← hL] at hRo hle
            rw [← hv] at Hfin
            obtain ⟨R1, p1, rfl, _⟩ := hRo.ids.form
            obtain ⟨R2, p2, rfl, _⟩ := hRo.l.form
            have hrd : RVal (fun y => GB + 1 ≤ y) WI [.int .i64 2, .int .i64 0, .string ⟨#[]⟩, .slice R1 (L.map (·.1)).length p1, .slice R2 (L.map (·.2)).length p2] v := by
              rw [hv2]
              exact hRo.read (S := (fun y => GB + 1 ≤ y)) (fun y hy => by omega) (fun y hy => hy) (by rw [List.length_map]; omega) (by rw [List.length_map]; omega) 2 0 ⟨#[]⟩
            generalize (L.map (·.1)).length = L1 at *
            generalize (L.map (·.2)).length = L2 at *
            obtain ⟨e0, e1, e2, e3, e4⟩ := zO.five
            have zR := HZR.out.below hbO hRA
            obtain ⟨r0, r1, r2, r3, r4⟩ := zR.five
            have g0 := zR.frozen 0
            have g1 := zR.frozen 1
            have g2 := zR.frozen 2
            have g3 := zR.frozen 3
            have g4 := zR.frozen 4
            have hlr := zR.lt
            have hlO := zO.lt
            have Hrd := Lib.hid hrd
            clear hv hrd hRo hall hle hL hv2
            go_wp2_with fail
            change bodyPost _ _ _ _ _ (setCells WI (w.heap.size + 1) 0 [.int .i64 2, .int .i64 0, .string ⟨#[]⟩, .slice R1 L1 p1, .slice R2 L2 p2])
            have hb5 := zR.setCells [.int .i64 2, .int .i64 0, .string ⟨#[]⟩, .slice R1 L1 p1, .slice R2 L2 p2] rfl
            have hw5 := below_setCells (g := w.heap.size + 1) (by go_light; omega) [.int .i64 2, .int .i64 0, .string ⟨#[]⟩, .slice R1 L1 p1, .slice R2 L2 p2] 0 _ (hwA.trans (hbO.mono (by go_light; omega)))
            have hrd2 : RVal (New w) (setCells WI (w.heap.size + 1) 0 [.int .i64 2, .int .i64 0, .string ⟨#[]⟩, .slice R1 L1 p1, .slice R2 L2 p2]) [.int .i64 2, .int .i64 0, .string ⟨#[]⟩, .slice R1 L1 p1, .slice R2 L2 p2] v :=
              RVal.fair.mono (RVal.fair.keep Hrd.out (Keep.setCells (by omega) _ _ _)) (fun y hy _ => by show w.heap.size ≤ y; have : GB + 1 ≤ y := hy; omega)
            generalize setCells WI (w.heap.size + 1) 0 _ = W at hb5 hw5 hrd2 ⊢
            rw [Hfin.out]
            exact bodyPost_ret (valueOf_results hb5 rfl rfl) rfl ⟨_, rfl, hrd2, hw5⟩
            --FIN]
        --END]
  · have hdb : (dc != 0) = true := by simpa using hdc
    rw [if_pos hdc] at Hr
    have Hno := Hr
    clear hdc hb1
    go_wp2_with fail
    refine (no_any dc _).mono ?_
    rintro e w2 ⟨rfl, hb2⟩
    have hw2 := below_via hw1 hb2 hw1.size
    have u2 := y2.below hb2 y2.lt
    obtain ⟨r0, r1, r2, r3, r4⟩ := u2.five
    have g0 := u2.frozen 0
    have g1 := u2.frozen 1
    have g2 := u2.frozen 2
    have g3 := u2.frozen 3
    have g4 := u2.frozen 4
    have hlr := u2.lt
    go_wp2_with fail
    change bodyPost _ _ _ _ _ (setCells w2 (w.heap.size + 1) 0 [.int .i64 0, .int .i64 0, .string ⟨#[]⟩, .slice none 0 0, .slice none 0 0])
    rw [Hno.out]
    exact bodyPost_ret (valueOf_results (u2.setCells [.int .i64 0, .int .i64 0, .string ⟨#[]⟩, .slice none 0 0, .slice none 0 0] rfl) rfl rfl) rfl ⟨_, rfl, RVal.zero, below_setCells (g := w.heap.size + 1) (Nat.le_succ _) [.int .i64 0, .int .i64 0, .string ⟨#[]⟩, .slice none 0 0, .slice none 0 0] 0 _ hw2⟩
end Go.Proofs.YtockolmdffehnaaDoor
