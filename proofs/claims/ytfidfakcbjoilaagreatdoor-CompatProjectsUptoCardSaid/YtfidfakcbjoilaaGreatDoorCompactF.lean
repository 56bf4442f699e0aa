/- slices.Compact at flaws. -/
import Derived.Test.YtfidfakcbjoilaaGreatDoorSortFlaws
import Derived.Laws.IdiomCopy
import Derived.Lib.SliceRun
import Derived.Shelf.RegionOpenPlain
set_option linter.all false
set_option maxRecDepth 100000
set_option maxHeartbeats 8000000
namespace Go.Proofs.YtfidfakcbjoilaaGreatDoor
open Go.RowKit
theorem flaw_guard : Tryz.prog.eqGuardType Tryz.prog.depth 60 = false := by kernel_rfl
theorem flaw_fields : Tryz.prog.underlying 60 = some (.struct (Tryz.prog.fieldsOf 60)) := by kernel_rfl
theorem flaw_held : Tryz.prog.stoodInHeld 60 = false := by kernel_rfl
theorem toList_injF {a b : ByteArray} : (a.toList = b.toList) ↔ a = b := by
 rw [ByteArray.toList_eq, ByteArray.toList_eq]
 obtain ⟨⟨l⟩⟩ := a
 obtain ⟨⟨l'⟩⟩ := b
 simp
theorem run_eql_flaw (p q : FlawD) (W : World) : (binOp .eql 60 (.agg (flawCells p).toArray) (.agg (flawCells q).toArray)).run Tryz.prog W = .ok (.bool (decide (p = q))) W := by
 obtain ⟨a, b, c⟩ := p
 obtain ⟨a', b', c'⟩ := q
 have h := run_equalIn_agg (P := Tryz.prog) W 9999 60 #[.string a, .int .i64 b, .int .i64 c] #[.string a', .int .i64 b', .int .i64 c'] flaw_fields flaw_held
 unfold flawCells
 rw [run_eql_struct, h]
 simp [go_sem, toList_injF]
 by_cases h1 : a = a' <;> by_cases h2 : b = b' <;> by_cases h3 : c = c' <;> simp [h1, h2, h3]
theorem run_neq_flaw (p q : FlawD) (W : World) : (binOp .neq 60 (.agg (flawCells p).toArray) (.agg (flawCells q).toArray)).run Tryz.prog W = .ok (.bool (!decide (p = q))) W := by
 obtain ⟨a, b, c⟩ := p
 obtain ⟨a', b', c'⟩ := q
 have h := run_equalIn_agg (P := Tryz.prog) W 9999 60 #[.string a, .int .i64 b, .int .i64 c] #[.string a', .int .i64 b', .int .i64 c'] flaw_fields flaw_held
 unfold flawCells
 rw [run_neq_struct, h]
 simp [go_sem, toList_injF]
 by_cases h1 : a = a' <;> by_cases h2 : b = b' <;> by_cases h3 : c = c' <;> simp [h1, h2, h3]
theorem onceF_snoc (a b : FlawD) : ∀ m : List FlawD, onceF (m ++ [a] ++ [b]) = if b = a then onceF (m ++ [a]) else onceF (m ++ [a]) ++ [b]
 | [] => by
  simp only [List.nil_append, List.cons_append, onceF]
  by_cases h : a = b
  ·subst h; simp
  ·rw [if_neg h, if_neg (fun e => h e.symm)]
 | [x] => by
  have ih := onceF_snoc a b []
  simp only [List.nil_append, List.cons_append, onceF] at ih ⊢
  by_cases h : x = a <;> by_cases h2 : b = a
  ·subst h h2; simp
  ·subst h
   simp [h2]
   exact fun e => h2 e.symm
  ·subst h2; simp [h]
  ·simp [h, h2]
   exact fun e => h2 e.symm
 | x :: y :: m => by
  have ih := onceF_snoc a b (y :: m)
  simp only [List.cons_append, onceF] at ih ⊢
  rw [ih]
  by_cases h : x = y <;> by_cases h2 : b = a <;> simp [h, h2]
theorem once_step {l : List FlawD} {k : Nat} (h0 : 0 < k) (h : k < l.length) : onceF (l.take (k + 1)) = if l[k] = l[k - 1]'(by omega) then onceF (l.take k) else onceF (l.take k) ++ [l[k]] := by
 have e1 : l.take (k + 1) = l.take k ++ [l[k]] := List.take_succ_eq_append_getElem h
 have e2 : l.take k = l.take (k - 1) ++ [l[k - 1]'(by omega)] := by
  have := List.take_succ_eq_append_getElem (show k - 1 < l.length by omega)
  rwa [show k - 1 + 1 = k by omega] at this
 rw [e1, e2]
 exact onceF_snoc _ _ _
theorem cell_setCellsK {g i : Nat} : ∀ (zs : List Value) (o : Nat) (w : World), i < o → (w.setCells g o zs).cell? ⟨g, i, none⟩ = w.cell? ⟨g, i, none⟩
 | [], _, _, _ => rfl
 | z :: zs, o, w, h => by
  rw [World.setCells, cell_setCellsK zs (o + 1) _ (by omega)]
  exact World.cell?_setCell_other _ _ _ _ (by intro e; simp only [Addr.mk.injEq] at e; omega)
theorem below_setCellsK {base g : Nat} {w : World} (hg : base ≤ g) : ∀ (zs : List Value) (o : Nat) (W : World), Below base w W → Below base w (W.setCells g o zs)
 | [], _, _, h => h
 | z :: zs, o, W, h => by
  rw [World.setCells]
  exact below_setCellsK hg zs (o + 1) _ (h.setCell (p := ⟨g, o, none⟩) hg z)
theorem size_setCellsK {g : Nat} : ∀ (zs : List Value) (o : Nat) (W : World), (W.setCells g o zs).heap.size = W.heap.size
 | [], _, _ => rfl
 | z :: zs, o, W => by rw [World.setCells, size_setCellsK zs (o + 1) _]; simp
theorem run_clear_more {P : Program} (w : World) (t e ty : TypeId) (z : Value) (b o n c : Nat) (ht : P.underlying t = some (.slice e)) (hv : ∀ w, (zeroValue e).run P w = .ok z w) (hn : 0 < n)
  (h1 : ∀ v ∈ (Builtin.zeroCells z.cells n).toList, v.oneCell' = true)
  (hc : ∀ j, j < (Builtin.zeroCells z.cells n).toList.length → (w.cell? ⟨b, o + j, none⟩).isSome = true) (hf : ∀ j, j < (Builtin.zeroCells z.cells n).toList.length → w.frozen? ⟨b, o + j, none⟩ = false) :
  (Builtin.clear_ #[t] ty #[.slice (some ⟨b, o, none⟩) n c]).run P w = .ok (.tuple #[]) (w.setCells b o (Builtin.zeroCells z.cells n).toList) := by
 have hst := run_storeCells_cells (P := P) b o (Builtin.zeroCells z.cells n).toList 0 w (by simpa using hc) (by simpa using hf) h1
 simp only [Nat.add_zero] at hst
 obtain ⟨m, rfl⟩ : ∃ m, n = m + 1 := ⟨n - 1, by omega⟩
 simp [Builtin.clear_, run_underlying ht, hv, hst]
theorem compactF_any (base : Nat) (v : Value) (l : List FlawD) (w : World) (ho : Own base 60 3 RFlaw NoT w v l) (hl : l.length ≤ 1000000000000) (hb : base ≤ w.heap.size) :
  Calls Tryz.prog 25 #[v] w fun e w' => ∃ v', e = .returned v' ∧ RSl 3 32 RFlaw (fun g => base ≤ g) w' [v'] (onceF l) ∧ Below base w w' := by
 obtain ⟨A, c, rfl, hlc⟩ := ho.form
 by_cases h2 : l.length < 2
 ·have hR := Lib.hid (ho.read (S := fun g => base ≤ g) (by_ := 32) RFlaw.fair (fun _ h _ => h.elim) (fun k e => (ho.lt e).1) (by omega))
  have h2' : (l.length : Int) < 2 := by omega
  have e : onceF l = l := by
   match l, h2 with
   | [], _ => rfl
   | [x], _ => rfl
   | x :: y :: r, h => simp at h; omega
  rw [e]
  clear e ho
  go_enter Tryz.func25, Tryz.ntmps25
  go_wp2_with fail
  go_ret
  exact ⟨_, rfl, hR.out, Below.refl _ _⟩
 ·obtain ⟨g, rfl, hg, hgl⟩ := ho.there_ (by omega)
  have h2' : ¬ (l.length : Int) < 2 := by omega
  have H1 : Hid (onceF (l.take 1) = l.take 1) := by
   show _ = _
   match l, h2 with
   | [], h => simp at h
   | x :: r, _ => rfl
  have hgd := flaw_guard
  have hmx : Tryz.prog.follows Departure.mixedOrders = true := by kernel_rfl
  go_enter Tryz.func25, Tryz.ntmps25
  go_wp2_with fail
  have h1l : 1 ≤ l.length := by omega
  clear h2 h2'
  go_loopw [3] (fun c3 wr => ∃ k : Nat, c3 = .int .i64 k ∧ 1 ≤ k ∧ k ≤ l.length ∧ Hid (onceF (l.take k) = l.take k) ∧ Own base 60 3 RFlaw NoT wr (.slice (some ⟨g, 0, none⟩) l.length c) l ∧ Below base w wr) (fun c3 _ => l.length - (intOf c3).toNat)
  case atStart => exact ⟨1, rfl, Nat.le_refl _, by omega, H1, ho, Below.refl _ _⟩
  case round =>
   obtain ⟨k, rfl, hk1, hk, HK, hO, hB⟩ := hrel
   by_cases hlt : k < l.length
   ·have hlt' : (k : Int) < (l.length : Int) := by omega
    obtain ⟨cs1, -, hr1, hc1⟩ := hO.cells hlt
    obtain ⟨cs0, -, hr0, hc0⟩ := hO.cells (show k - 1 < l.length by omega)
    have Hs := Lib.hid (once_step (show 0 < k by omega) hlt)
    obtain ⟨x, hx⟩ : ∃ x, x = l[k] := ⟨_, rfl⟩
    obtain ⟨y, hy⟩ : ∃ y, y = l[k - 1]'(by omega) := ⟨_, rfl⟩
    have Hx : Hid (l.take (k + 1) = l.take k ++ [x]) := by show _ = _; rw [hx]; exact List.take_succ_eq_append_getElem hlt
    rw [← hx] at hr1 Hs
    rw [← hy] at hr0 Hs
    obtain rfl : cs1 = flawCells x := hr1
    obtain rfl : cs0 = flawCells y := hr0
    have hgw := (hO.lt rfl).2
    have q0 : wr.cell? ⟨g, k * 3, none⟩ = some (.string x.type) := hc1.at_ 0 rfl
    have q1 : wr.cell? ⟨g, k * 3 + 1, none⟩ = some (.int .i64 x.id) := hc1.at_ 1 rfl
    have q2 : wr.cell? ⟨g, k * 3 + 2, none⟩ = some (.int .i64 x.why) := hc1.at_ 2 rfl
    have p0 : wr.cell? ⟨g, (k - 1) * 3, none⟩ = some (.string y.type) := hc0.at_ 0 rfl
    have p1 : wr.cell? ⟨g, (k - 1) * 3 + 1, none⟩ = some (.int .i64 y.id) := hc0.at_ 1 rfl
    have p2 : wr.cell? ⟨g, (k - 1) * 3 + 2, none⟩ = some (.int .i64 y.why) := hc0.at_ 2 rfl
    have e0 : IntKind.i64.wrap ((k : Int) - 1) = ((k - 1 : Nat) : Int) := by rw [IntWalk.i64_in _ (by omega)]; omega
    have hk1' : ((k - 1 : Nat) : Int) < (l.length : Int) := by omega
    have heq := fun W => run_eql_flaw x y W
    simp only [flawCells] at heq
    obtain ⟨d, hd⟩ : ∃ d, d = decide (x = y) := ⟨_, rfl⟩
    rw [← hd] at heq
    have Hd := Lib.hid hd
    clear hc1 hc0 hx hy hd
    go_wp2_with fail
    go_region_o
    cases d with
    | false =>
     have hne : x ≠ y := fun h => by have := Hd.out; rw [decide_eq_true h] at this; cases this
     have HK2 : Hid (onceF (l.take (k + 1)) = l.take (k + 1)) := by show _ = _; rw [Hs.out, if_neg hne, HK.out, Hx.out]
     clear hne HK Hs Hx Hd heq q0 q1 q2 p0 p1 p2
     go_wp2_with fail
     go_roundw
     case rel => exact ⟨k + 1, by simp, by omega, by omega, HK2, hO.drew RFlaw.fair, below_drew hB⟩
     case measure => simp [intOf]; omega
    | true =>
     have hxy : x = y := of_decide_eq_true Hd.out.symm
     have hn1 : ¬ c = k := by omega
     have hn2 : ¬ k = c := by omega
     have HK2 : Hid (l.take k = onceF (l.take (k + 1))) := by show _ = _; rw [Hs.out, if_pos hxy, HK.out]
     have hO' := hO.drew RFlaw.fair
     have hB' := below_drew hB
     clear hxy HK Hs Hx Hd heq q0 q1 q2 p0 p1 p2 hO hB e0 hk1'
     go_wp2_with fail
     generalize wr.drew = wq at hO' hB' ⊢
     go_loopw [3, 5] (fun c3 c5 wt => ∃ (kk k2 : Nat) (dk : List FlawD), c3 = .int .i64 kk ∧ c5 = .int .i64 k2 ∧ 1 ≤ k2 ∧ k + k2 ≤ l.length ∧ kk < k + k2 ∧ dk.length = l.length ∧ Hid (dk.take kk = onceF (l.take (k + k2))) ∧ Hid (∀ j, k + k2 - 1 ≤ j → dk[j]? = l[j]?) ∧
      Own base 60 3 RFlaw NoT wt (.slice (some ⟨g, 0, none⟩) l.length c) dk ∧ Below base w wt) (fun _ c5 _ => l.length - (intOf c5).toNat)
     case atStart => exact ⟨k, 1, l, rfl, rfl, Nat.le_refl _, by omega, by omega, rfl, HK2, (fun _ _ => rfl), hO', hB'⟩
     case round =>
      obtain ⟨kk, k2, dk, rfl, rfl, h1, hle, hkk, hdl, HT, HD, hO2, hB2⟩ := hrel
      have Hdl := Lib.hid hdl
      have Hkk := Lib.hid hkk
      clear hO' hB'
      by_cases hlt2 : k + k2 < l.length
      ·--[KEEP
       have hlt3 : (k2 : Int) < ((l.length - k : Nat) : Int) := by omega
       obtain ⟨cs1, -, hr1, hc1⟩ := hO2.cells (show k + k2 < dk.length by omega)
       obtain ⟨cs0, -, hr0, hc0⟩ := hO2.cells (show k + k2 - 1 < dk.length by omega)
       obtain ⟨csk, -, hrk, hck⟩ := hO2.cells (show kk < dk.length by omega)
       have Hs := Lib.hid (once_step (show 0 < k + k2 by omega) hlt2)
       obtain ⟨x, hx⟩ : ∃ x, x = l[k + k2] := ⟨_, rfl⟩
       obtain ⟨y, hy⟩ : ∃ y, y = l[k + k2 - 1]'(by omega) := ⟨_, rfl⟩
       have hx2 : dk[k + k2]'(by omega) = x := by
        have := HD.out (k + k2) (by omega)
        rw [List.getElem?_eq_getElem (by omega), List.getElem?_eq_getElem (by omega)] at this
        rw [hx]; exact Option.some.inj this
       have hy2 : dk[k + k2 - 1]'(by omega) = y := by
        have := HD.out (k + k2 - 1) (by omega)
        rw [List.getElem?_eq_getElem (by omega), List.getElem?_eq_getElem (by omega)] at this
        rw [hy]; exact Option.some.inj this
       rw [hx2] at hr1
       rw [hy2] at hr0
       rw [← hx, ← hy] at Hs
       obtain ⟨z, hz⟩ : ∃ z, z = dk[kk]'(by omega) := ⟨_, rfl⟩
       rw [← hz] at hrk
       obtain rfl : cs1 = flawCells x := hr1
       obtain rfl : cs0 = flawCells y := hr0
       obtain rfl : csk = flawCells z := hrk
       have hgw := (hO2.lt rfl).2
       have q0 : wr.cell? ⟨g, k * 3 + k2 * 3, none⟩ = some (.string x.type) := by have := hc1.at_ 0 rfl; rwa [show (k + k2) * 3 + 0 = k * 3 + k2 * 3 by omega] at this
       have q1 : wr.cell? ⟨g, k * 3 + k2 * 3 + 1, none⟩ = some (.int .i64 x.id) := by have := hc1.at_ 1 rfl; rwa [show (k + k2) * 3 + 1 = k * 3 + k2 * 3 + 1 by omega] at this
       have q2 : wr.cell? ⟨g, k * 3 + k2 * 3 + 2, none⟩ = some (.int .i64 x.why) := by have := hc1.at_ 2 rfl; rwa [show (k + k2) * 3 + 2 = k * 3 + k2 * 3 + 2 by omega] at this
       have p0 : wr.cell? ⟨g, k * 3 + (k2 - 1) * 3, none⟩ = some (.string y.type) := by have := hc0.at_ 0 rfl; rwa [show (k + k2 - 1) * 3 + 0 = k * 3 + (k2 - 1) * 3 by omega] at this
       have p1 : wr.cell? ⟨g, k * 3 + (k2 - 1) * 3 + 1, none⟩ = some (.int .i64 y.id) := by have := hc0.at_ 1 rfl; rwa [show (k + k2 - 1) * 3 + 1 = k * 3 + (k2 - 1) * 3 + 1 by omega] at this
       have p2 : wr.cell? ⟨g, k * 3 + (k2 - 1) * 3 + 2, none⟩ = some (.int .i64 y.why) := by have := hc0.at_ 2 rfl; rwa [show (k + k2 - 1) * 3 + 2 = k * 3 + (k2 - 1) * 3 + 2 by omega] at this
       have u0 : wr.cell? ⟨g, kk * 3, none⟩ = some (.string z.type) := hck.at_ 0 rfl
       have u1 : wr.cell? ⟨g, kk * 3 + 1, none⟩ = some (.int .i64 z.id) := hck.at_ 1 rfl
       have u2 : wr.cell? ⟨g, kk * 3 + 2, none⟩ = some (.int .i64 z.why) := hck.at_ 2 rfl
       have f0 := hO2.frozen (kk * 3)
       have f1 := hO2.frozen (kk * 3 + 1)
       have f2 := hO2.frozen (kk * 3 + 2)
       have e0 : IntKind.i64.wrap ((k2 : Int) - 1) = ((k2 - 1 : Nat) : Int) := by rw [IntWalk.i64_in _ (by omega)]; omega
       have hk1' : ((k2 - 1 : Nat) : Int) < ((l.length - k : Nat) : Int) := by omega
       have hkk3 : (kk : Int) < (l.length : Int) := by omega
       have heq := fun W => run_neq_flaw x y W
       simp only [flawCells] at heq
       obtain ⟨d, hd⟩ : ∃ d, d = decide (x = y) := ⟨_, rfl⟩
       rw [← hd] at heq
       have Hd := Lib.hid hd
       have Hlt2 := Lib.hid hlt2
       clear hc1 hc0 hck hx hy hd hx2 hy2 hdl hz
       go_wp2_with fail
       go_region_o
       cases d with
       | true =>
        have hxy : x = y := of_decide_eq_true Hd.out.symm
        have HT2 : Hid (dk.take kk = onceF (l.take (k + (k2 + 1)))) := by show _ = _; rw [← Nat.add_assoc, Hs.out, if_pos hxy]; exact HT.out
        clear hxy Hs Hd HT heq q0 q1 q2 p0 p1 p2 u0 u1 u2 f0 f1 f2
        go_wp2_with fail
        go_roundw
        case rel => exact ⟨kk, k2 + 1, dk, rfl, by simp, by omega, by omega, by omega, Hdl.out, HT2, (fun j hj => HD.out j (by omega)), hO2.drew RFlaw.fair, below_drew hB2⟩
        case measure => simp [intOf]; omega
       | false =>
        have hxy : x ≠ y := fun h => by have := Hd.out; rw [decide_eq_true h] at this; cases this
        have HT2 : Hid ((dk.set kk x).take (kk + 1) = onceF (l.take (k + (k2 + 1)))) := by
         show _ = _
         rw [← Nat.add_assoc, Hs.out, if_neg hxy, ← HT.out]
         have hkd : kk < dk.length := by have := Hdl.out; omega
         rw [List.take_succ_eq_append_getElem (by rw [List.length_set]; exact hkd), List.getElem_set_self, List.take_set_of_le (Nat.le_refl _)]
        have hst := (hO2.drew RFlaw.fair)
        rw [← Hdl.out] at hst
        have hst2 := hst.store RFlaw.fair (i := kk) (by have := Hdl.out; omega) (cs := flawCells x) (x := x) rfl rfl
        rw [Hdl.out] at hst2
        have HST := Lib.hid hst2
        clear hst hst2 hxy Hs Hd HT
        go_wp2_with fail
        go_roundw
        case rel => exact ⟨kk + 1, k2 + 1, dk.set kk x, by simp, by simp, by omega, by omega, by omega, by rw [List.length_set]; exact Hdl.out, HT2, (fun j hj => by rw [List.getElem?_set_ne (by omega)]; exact HD.out j (by omega)), HST.out.1, below_grown (below_drew hB2) HST.out.2 (Nat.le_trans hb (below_drew hB2).size) (fun g' h => by cases h; exact hg)⟩
        case measure => simp [intOf]; omega
      ·--[END
       have hend : k + k2 = l.length := by omega
       have hlt3 : ¬ (k2 : Int) < ((l.length - k : Nat) : Int) := by omega
       have hT : dk.take kk = onceF l := by have := HT.out; rwa [hend, List.take_length] at this
       have hkl : kk < l.length := by omega
       have hkl3 : (kk : Int) ≤ (l.length : Int) := by omega
       have hn1 : ¬ c = kk := by omega
       have hn2 : ¬ kk = c := by omega
       have hO3 := hO2
       rw [← Hdl.out] at hO3
       obtain ⟨n, hn⟩ : ∃ n, n = l.length - kk := ⟨_, rfl⟩
       obtain ⟨zs, hzs⟩ : ∃ zs, zs = (Builtin.zeroCells (Value.agg #[.string ⟨#[]⟩, .int .i64 0, .int .i64 0]).cells n).toList := ⟨_, rfl⟩
       have hzl : zs.length = n * 3 := by rw [hzs]; simp [Builtin.zeroCells, Value.cells]
       have hcs : ∀ i, i < l.length * 3 → (wr.cell? ⟨g, i, none⟩).isSome = true := by
        obtain ⟨css, ho1, -⟩ := hO3
        intro i hi
        rw [ho1.cellAt _ (by rw [hdl]; exact hi), List.getElem?_eq_getElem (by rw [ho1.1, hdl]; exact hi)]
        rfl
       have hcl : ∀ ty, (Builtin.clear_ #[26] ty #[.slice (some ⟨g, kk * 3, none⟩) (l.length - kk) (c - kk)]).run Tryz.prog wr = .ok (.tuple #[]) (wr.setCells g (kk * 3) zs) := by
        intro ty
        rw [← hn, hzs]
        refine run_clear_more wr _ _ ty _ g (kk * 3) n _ Tryz.underlying26 Tryz.zeroValue60 (by omega) ?_ ?_ ?_
        ·intro v hv
         simp [Builtin.zeroCells, Value.cells] at hv
         obtain ⟨i, -, rfl⟩ := hv
         have : i % 3 = 0 ∨ i % 3 = 1 ∨ i % 3 = 2 := by omega
         rcases this with h | h | h <;> rw [h] <;> rfl
        ·rw [← hzs, hzl]; intro j hj; exact hcs _ (by omega)
        ·intro j _; exact hO2.frozen _
       have hcells : ∀ j x, (onceF l)[j]? = some x → Lies wr g (j * 3) (flawCells x) := by
        intro j x hx
        rw [← hT] at hx
        obtain ⟨hj, hjx⟩ := List.getElem?_eq_some_iff.1 hx
        rw [List.length_take] at hj
        obtain ⟨cs, -, hr, hc⟩ := hO2.cells (show j < dk.length by omega)
        obtain rfl : cs = flawCells dk[j] := hr
        rw [List.getElem_take] at hjx
        rw [← hjx]; exact hc
       have hlen : (onceF l).length = kk := by rw [← hT, List.length_take]; omega
       have hres : RSl 3 32 RFlaw (fun g => base ≤ g) (wr.setCells g (kk * 3) zs) [.slice (some ⟨g, 0, none⟩) kk c] (onceF l) := by
        refine ⟨some ⟨g, 0, none⟩, c, by rw [hlen], by rw [hlen]; omega, by rw [hlen]; omega, fun j x hx => ⟨g, 0, flawCells x, rfl, hg, ?_, rfl, rfl, fun i hi => ?_⟩⟩
        ·rw [size_setCellsK]; exact (hO2.lt rfl).2
        ·have hj := (List.getElem?_eq_some_iff.1 hx).1
         have hi3 : i < 3 := hi
         rw [cell_setCellsK zs _ _ (by omega)]
         have := hcells j x hx i hi
         rwa [show j * 3 + i = 0 + j * 3 + i by omega] at this
       have HR := Lib.hid hres
       have HB := Lib.hid (below_setCellsK hg zs (kk * 3) wr hB2)
       clear hres hcells hcs hT HT HD hzl hzs hO3 hlen hO2
       go_wp2_with fail
       go_ret
       exact ⟨_, rfl, HR.out, HB.out⟩
   ·obtain rfl : k = l.length := by omega
    have hR := Lib.hid (hO.read (S := fun g => base ≤ g) (by_ := 32) RFlaw.fair (fun _ h _ => h.elim) (fun k e => (hO.lt e).1) (by omega))
    have e : onceF l = l := by have := HK.out; rwa [List.take_length] at this
    have He := Lib.hid e
    clear e hO
    go_wp2_with fail
    go_ret
    exact ⟨_, rfl, by rw [He.out]; exact hR.out, hB⟩
end Go.Proofs.YtfidfakcbjoilaaGreatDoor
