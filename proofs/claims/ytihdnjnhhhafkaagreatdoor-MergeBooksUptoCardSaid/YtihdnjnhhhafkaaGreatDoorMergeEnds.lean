/- The walks of slices.EqualFunc with merge.Same's closure, merge.Same, has. -/
import Derived.Test.YtihdnjnhhhafkaaGreatDoorMergeLast
set_option linter.all false
set_option maxRecDepth 100000
set_option maxHeartbeats 8000000
namespace Go.Proofs.YtihdnjnhhhafkaaGreatDoor
open Go.RowKit
theorem eqlF_no (A A' : Option Addr) (n n' c c' : Nat) (w : World) (h : n ≠ n') (h1 : n ≤ 9223372036854775807) (h2 : n' ≤ 9223372036854775807) : Calls Tryz.prog 25 #[.slice A n c, .slice A' n' c'] w (Ret w (.bool false)) := by
 have hne : ((n : Int) != (n' : Int)) = true := by simp; omega
 go_enter Tryz.func25, Tryz.ntmps25
 go_wp2_with fail
 all_goals first
  | (go_ret; exact ⟨rfl, Below.refl _ _⟩)
  | (exfalso; omega)
theorem sameC_no (S S' : Nat → Prop) (cs cs' : List Value) (t t' : TypeD) (w : World) (ht : RType S w cs t) (ht' : RType S' w cs' t') (hn : t.name = t'.name) (he : t.enum = t'.enum) (hf : t.fields.length ≠ t'.fields.length) : Calls Tryz.prog 23 #[.agg cs.toArray, .agg cs'.toArray] w (Ret w (.bool false)) := by
 obtain ⟨P2, p2, P3, p3, P4, p4, rfl, hF, hG, hI⟩ := ht.parts
 obtain ⟨Q2, q2, Q3, q3, Q4, q4, rfl, hF', hG', hI'⟩ := ht'.parts
 obtain ⟨_, _, hff, hfc, hfb⟩ := hF.form
 obtain ⟨_, _, hff', hfc', hfb'⟩ := hF'.form
 have HE := Lib.hid (fun W => eqlF_no P2 Q2 t.fields.length t'.fields.length p2 q2 W hf (by omega) (by omega))
 obtain ⟨z1, z2, hb⟩ := boxes2 w [.string t.name, .bool t.enum, .slice P2 t.fields.length p2, .slice P3 t.gone.length p3, .slice P4 t.items.length p4] [.string t'.name, .bool t'.enum, .slice Q2 t'.fields.length q2, .slice Q3 t'.gone.length q3, .slice Q4 t'.items.length q4] 38 38
 rw [← hn, ← he] at z2 hb z1
 rw [← hn, ← he]
 clear ht ht' hF hF' hG hG' hI hI' hff hff' hf hn he
 go_enter Tryz.func23, Tryz.ntmps23
 go_wp2_with fail
 refine (Tryz.strings_Compare _ _ _).mono ?_
 rintro e w1 ⟨rfl, rfl⟩
 rw [compare_self]
 have m3 := z1.cell 2
 have n3 := z2.cell 2
 have l1 := z1.lt
 have l2 := z2.lt
 simp only [List.getElem?_cons_zero, List.getElem?_cons_succ] at m3 n3
 have hbx : (t.enum == t.enum) = true := by simp
 go_wp2_with fail
 refine (HE.out _).mono ?_
 rintro e w2 ⟨rfl, hb2⟩
 have hw2 := below_via hb hb2 hb.size
 clear m3 n3 l1 l2 z1 z2 hb2
 go_wp2_with fail
 go_ret
 exact ⟨rfl, hw2⟩
theorem eqFunc_any (S S' : Nat → Prop) (v v' : Value) (b : BookD) (w : World) (h1 : RSl 5 96 RType S w [v] b) (h2 : RSl 5 96 RType S' w [v'] b) : Calls Tryz.prog 22 #[v, v', .func (.func 23) #[] #[]] w (Ret w (.bool true)) := by
 obtain ⟨A, d1, rfl, hlc, hlb⟩ := h1.form
 obtain ⟨A', d2, rfl, hlc', hlb'⟩ := h2.form
 have HL := Lib.hid h1
 have HL' := Lib.hid h2
 clear h1 h2
 go_enter Tryz.func22, Tryz.ntmps22
 go_wp2_with fail
 go_loopw [17] (fun i wr => ∃ k : Nat, i = .int .i64 k ∧ k ≤ b.length ∧ Below w.heap.size w wr) (fun i _ => b.length - (intOf i).toNat)
 case atStart => exact ⟨0, rfl, by omega, Below.refl _ _⟩
 case round =>
  obtain ⟨k, rfl, hk, hb⟩ := hrel
  by_cases hlt : k < b.length
  ·obtain ⟨lg, lo, rfl, hSl, hgl⟩ := HL.out.base (by omega)
   obtain ⟨mg, mo, rfl, hSm, hgm⟩ := HL'.out.base (by omega)
   obtain ⟨es, _, hrx, hlx⟩ := HL.out.lies hlt
   obtain ⟨fs, _, hry, hly⟩ := HL'.out.lies hlt
   obtain ⟨t, ht⟩ : ∃ t, t = b[k] := ⟨_, rfl⟩
   rw [← ht] at hrx hry
   obtain ⟨P2, p2, P3, p3, P4, p4, rfl, -, -, -⟩ := hrx.parts
   obtain ⟨Q2, q2, Q3, q3, Q4, q4, rfl, -, -, -⟩ := hry.parts
   have hc := hlx.keep (Keep.of_below hb) hSl
   have hd := hly.keep (Keep.of_below hb) hSm
   have HRx := Lib.hid hrx
   have HRy := Lib.hid hry
   have a0 : wr.cell? ⟨lg, lo + k * 5, none⟩ = some (.string t.name) := hc.at_ 0 rfl
   have a1 : wr.cell? ⟨lg, lo + k * 5 + 1, none⟩ = some (.bool t.enum) := hc.at_ 1 rfl
   have a2 : wr.cell? ⟨lg, lo + k * 5 + 2, none⟩ = some (.slice P2 t.fields.length p2) := hc.at_ 2 rfl
   have a3 : wr.cell? ⟨lg, lo + k * 5 + 3, none⟩ = some (.slice P3 t.gone.length p3) := hc.at_ 3 rfl
   have a4 : wr.cell? ⟨lg, lo + k * 5 + 4, none⟩ = some (.slice P4 t.items.length p4) := hc.at_ 4 rfl
   have b0 : wr.cell? ⟨mg, mo + k * 5, none⟩ = some (.string t.name) := hd.at_ 0 rfl
   have b1 : wr.cell? ⟨mg, mo + k * 5 + 1, none⟩ = some (.bool t.enum) := hd.at_ 1 rfl
   have b2 : wr.cell? ⟨mg, mo + k * 5 + 2, none⟩ = some (.slice Q2 t.fields.length q2) := hd.at_ 2 rfl
   have b3 : wr.cell? ⟨mg, mo + k * 5 + 3, none⟩ = some (.slice Q3 t.gone.length q3) := hd.at_ 3 rfl
   have b4 : wr.cell? ⟨mg, mo + k * 5 + 4, none⟩ = some (.slice Q4 t.items.length q4) := hd.at_ 4 rfl
   have hlg : lg < wr.heap.size := Nat.lt_of_lt_of_le hgl hb.size
   have hmg : mg < wr.heap.size := Nat.lt_of_lt_of_le hgm hb.size
   clear hrx hry hlx hly ht hc hd
   go_wp2_with fail
   have hw2 := (hb.alloc hb.size (.cells #[.string t.name, .bool t.enum, .slice P2 t.fields.length p2, .slice P3 t.gone.length p3, .slice P4 t.items.length p4] 38))
   have hw3 := hw2.alloc hw2.size (.cells #[.string t.name, .bool t.enum, .slice Q2 t.fields.length q2, .slice Q3 t.gone.length q3, .slice Q4 t.items.length q4] 38)
   refine (sameC_any S S' _ _ t _ (RType.fair.below HRx.out hw3) (RType.fair.below HRy.out hw3)).mono ?_
   rintro e w4 ⟨rfl, hb4⟩
   have hw4 := below_via hw3 hb4 hw3.size
   clear a0 a1 a2 a3 a4 b0 b1 b2 b3 b4 hlg hmg
   go_wp2_with fail
   go_roundw
   case rel => exact ⟨k + 1, by go_num, by omega, hw4⟩
   case measure => simp [intOf]; omega
  ·go_wp2_with fail
   go_ret
   exact ⟨rfl, hb⟩
theorem eqFunc_no (S S' : Nat → Prop) (v v' : Value) (t t' : TypeD) (w : World) (h1 : RSl 5 96 RType S w [v] [t]) (h2 : RSl 5 96 RType S' w [v'] [t']) (hn : t.name = t'.name) (he : t.enum = t'.enum) (hf : t.fields.length ≠ t'.fields.length) : Calls Tryz.prog 22 #[v, v', .func (.func 23) #[] #[]] w (Ret w (.bool false)) := by
 obtain ⟨A, d1, rfl, hlc, hlb⟩ := h1.form
 obtain ⟨A', d2, rfl, hlc', hlb'⟩ := h2.form
 have HL := Lib.hid h1
 have HL' := Lib.hid h2
 have HN := Lib.hid hn
 have HE := Lib.hid he
 have HF := Lib.hid hf
 simp only [List.length_cons, List.length_nil, Nat.zero_add] at *
 clear h1 h2 hn he hf
 go_enter Tryz.func22, Tryz.ntmps22
 go_wp2_with fail
 go_loopw [17] (fun i wr => i = .int .i64 0 ∧ Below w.heap.size w wr) (fun i _ => 1 - (intOf i).toNat)
 case atStart => exact ⟨rfl, Below.refl _ _⟩
 case round =>
  obtain ⟨rfl, hb⟩ := hrel
  obtain ⟨lg, lo, rfl, hSl, hgl⟩ := HL.out.base (by simp)
  obtain ⟨mg, mo, rfl, hSm, hgm⟩ := HL'.out.base (by simp)
  obtain ⟨es, _, hrx, hlx⟩ := HL.out.lies (k := 0) (by simp)
  obtain ⟨fs, _, hry, hly⟩ := HL'.out.lies (k := 0) (by simp)
  simp only [List.getElem_cons_zero] at hrx hry
  obtain ⟨P2, p2, P3, p3, P4, p4, rfl, -, -, -⟩ := hrx.parts
  obtain ⟨Q2, q2, Q3, q3, Q4, q4, rfl, -, -, -⟩ := hry.parts
  have hc := hlx.keep (Keep.of_below hb) hSl
  have hd := hly.keep (Keep.of_below hb) hSm
  simp only [Nat.zero_mul, Nat.add_zero] at hc hd
  have HRx := Lib.hid hrx
  have HRy := Lib.hid hry
  have a0 : wr.cell? ⟨lg, lo, none⟩ = some (.string t.name) := hc.at_ 0 rfl
  have a1 : wr.cell? ⟨lg, lo + 1, none⟩ = some (.bool t.enum) := hc.at_ 1 rfl
  have a2 : wr.cell? ⟨lg, lo + 2, none⟩ = some (.slice P2 t.fields.length p2) := hc.at_ 2 rfl
  have a3 : wr.cell? ⟨lg, lo + 3, none⟩ = some (.slice P3 t.gone.length p3) := hc.at_ 3 rfl
  have a4 : wr.cell? ⟨lg, lo + 4, none⟩ = some (.slice P4 t.items.length p4) := hc.at_ 4 rfl
  have b0 : wr.cell? ⟨mg, mo, none⟩ = some (.string t'.name) := hd.at_ 0 rfl
  have b1 : wr.cell? ⟨mg, mo + 1, none⟩ = some (.bool t'.enum) := hd.at_ 1 rfl
  have b2 : wr.cell? ⟨mg, mo + 2, none⟩ = some (.slice Q2 t'.fields.length q2) := hd.at_ 2 rfl
  have b3 : wr.cell? ⟨mg, mo + 3, none⟩ = some (.slice Q3 t'.gone.length q3) := hd.at_ 3 rfl
  have b4 : wr.cell? ⟨mg, mo + 4, none⟩ = some (.slice Q4 t'.items.length q4) := hd.at_ 4 rfl
  have hlg : lg < wr.heap.size := Nat.lt_of_lt_of_le hgl hb.size
  have hmg : mg < wr.heap.size := Nat.lt_of_lt_of_le hgm hb.size
  clear hrx hry hlx hly hc hd
  go_wp2_with fail
  have hw2 := (hb.alloc hb.size (.cells #[.string t.name, .bool t.enum, .slice P2 t.fields.length p2, .slice P3 t.gone.length p3, .slice P4 t.items.length p4] 38))
  have hw3 := hw2.alloc hw2.size (.cells #[.string t'.name, .bool t'.enum, .slice Q2 t'.fields.length q2, .slice Q3 t'.gone.length q3, .slice Q4 t'.items.length q4] 38)
  refine (sameC_no S S' _ _ t t' _ (RType.fair.below HRx.out hw3) (RType.fair.below HRy.out hw3) HN.out HE.out HF.out).mono ?_
  rintro e w4 ⟨rfl, hb4⟩
  have hw4 := below_via hw3 hb4 hw3.size
  clear a0 a1 a2 a3 a4 b0 b1 b2 b3 b4 hlg hmg
  go_wp2_with fail
  go_ret
  exact ⟨rfl, hw4⟩
theorem same_books (S S' : Nat → Prop) (v v' : Value) (b : BookD) (w : World) (h1 : RSl 5 96 RType S w [v] b) (h2 : RSl 5 96 RType S' w [v'] b) : Calls Tryz.prog 9 #[.agg #[v], .agg #[v']] w (Ret w (.bool true)) := by
 have H1 := Lib.hid h1
 have H2 := Lib.hid h2
 obtain ⟨z1, z2, hb⟩ := boxes2 w [v] [v'] 24 24
 have l1 := z1.lt
 have l2 := z2.lt
 have m1 := z1.cell 0
 have m2 := z2.cell 0
 simp only [List.getElem?_cons_zero] at m1 m2
 clear h1 h2
 go_enter Tryz.func9, Tryz.ntmps9
 go_wp2_with fail
 refine (eqFunc_any S S' _ _ b _ ((RSl.fair RType.fair).below H1.out hb) ((RSl.fair RType.fair).below H2.out hb)).mono ?_
 rintro e w1 ⟨rfl, hb1⟩
 have hw1 := below_via hb hb1 hb.size
 clear m1 m2 l1 l2 z1 z2
 go_wp2_with fail
 go_ret
 exact ⟨rfl, hw1⟩
theorem same_no (S S' : Nat → Prop) (v v' : Value) (t t' : TypeD) (w : World) (h1 : RSl 5 96 RType S w [v] [t]) (h2 : RSl 5 96 RType S' w [v'] [t']) (hn : t.name = t'.name) (he : t.enum = t'.enum) (hf : t.fields.length ≠ t'.fields.length) : Calls Tryz.prog 9 #[.agg #[v], .agg #[v']] w (Ret w (.bool false)) := by
 have H1 := Lib.hid h1
 have H2 := Lib.hid h2
 have HN := Lib.hid hn
 have HE := Lib.hid he
 have HF := Lib.hid hf
 clear hn he hf
 obtain ⟨z1, z2, hb⟩ := boxes2 w [v] [v'] 24 24
 have l1 := z1.lt
 have l2 := z2.lt
 have m1 := z1.cell 0
 have m2 := z2.cell 0
 simp only [List.getElem?_cons_zero] at m1 m2
 clear h1 h2
 go_enter Tryz.func9, Tryz.ntmps9
 go_wp2_with fail
 refine (eqFunc_no S S' _ _ t t' _ ((RSl.fair RType.fair).below H1.out hb) ((RSl.fair RType.fair).below H2.out hb) HN.out HE.out HF.out).mono ?_
 rintro e w1 ⟨rfl, hb1⟩
 have hw1 := below_via hb hb1 hb.size
 clear m1 m2 l1 l2 z1 z2
 go_wp2_with fail
 go_ret
 exact ⟨rfl, hw1⟩
end Go.Proofs.YtihdnjnhhhafkaaGreatDoor
