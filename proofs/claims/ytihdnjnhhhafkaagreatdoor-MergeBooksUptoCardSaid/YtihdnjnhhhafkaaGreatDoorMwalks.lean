/- Several texts of walks and laws in one file; what each proves stands at its head. -/
import Derived.Test.YtihdnjnhhhafkaaGreatDoorBookGood
import Derived.Test.YtihdnjnhhhafkaaGreatDoorMLaws
import Derived.Deep.Light
import Derived.Test.YtihdnjnhhhafkaaGreatDoorBase
import Derived.Sort.Grow
import Derived.Sort.EncStr
set_option linter.all false
set_option maxRecDepth 100000
set_option maxHeartbeats 8000000
namespace Go.Proofs.YtihdnjnhhhafkaaGreatDoor
open Go.RowKit
def stCells (s : StateD) : List Value := [.bool s.there, .bool s.enum, .int .i64 s.field.id, .string s.field.name, .string s.field.type, .int .i64 s.field.kind, .int .i64 s.field.rule, .string s.item]
theorem state_guard : Tryz.prog.eqGuardType Tryz.prog.depth 45 = false := by kernel_rfl
theorem state_fields : Tryz.prog.underlying 45 = some (.struct (Tryz.prog.fieldsOf 45)) := by kernel_rfl
theorem state_held : Tryz.prog.stoodInHeld 45 = false := by kernel_rfl
theorem field_guard : Tryz.prog.eqGuardType Tryz.prog.depth 43 = false := by kernel_rfl
theorem field_fields : Tryz.prog.underlying 43 = some (.struct (Tryz.prog.fieldsOf 43)) := by kernel_rfl
theorem field_held : Tryz.prog.stoodInHeld 43 = false := by kernel_rfl
theorem toList_inj {a b : ByteArray} : (a.toList = b.toList) ↔ a = b := by
 rw [ByteArray.toList_eq, ByteArray.toList_eq]
 obtain ⟨⟨l⟩⟩ := a
 obtain ⟨⟨l'⟩⟩ := b
 simp
theorem run_eql_state (p q : StateD) (W : World) : (binOp .eql 45 (.agg (stCells p).toArray) (.agg (stCells q).toArray)).run Tryz.prog W = .ok (.bool (decide (p = q))) W := by
 obtain ⟨a, b, ⟨c, d, e, f, g⟩, i⟩ := p
 obtain ⟨a', b', ⟨c', d', e', f', g'⟩, i'⟩ := q
 have h := run_equalIn_agg (P := Tryz.prog) W 9999 45 #[.bool a, .bool b, .int .i64 c, .string d, .string e, .int .i64 f, .int .i64 g, .string i] #[.bool a', .bool b', .int .i64 c', .string d', .string e', .int .i64 f', .int .i64 g', .string i'] state_fields state_held
 have h2 := run_equalIn_agg (P := Tryz.prog) W 9998 43 #[.int .i64 c, .string d, .string e, .int .i64 f, .int .i64 g] #[.int .i64 c', .string d', .string e', .int .i64 f', .int .i64 g'] field_fields field_held
 unfold stCells
 rw [run_eql_struct, h]
 simp [go_sem, h2, toList_inj]
 by_cases h1 : a = a' <;> by_cases h2 : b = b' <;> by_cases h3 : c = c' <;> by_cases h4 : d = d' <;> by_cases h5 : e = e' <;> by_cases h6 : f = f' <;> by_cases h7 : g = g' <;> by_cases h8 : i = i' <;> simp [h1, h2, h3, h4, h5, h6, h7, h8]
end Go.Proofs.YtihdnjnhhhafkaaGreatDoor
namespace Go.Proofs.YtihdnjnhhhafkaaGreatDoor
open Go.RowKit
theorem Box.eight {w : World} {g : Nat} {t : TypeId} {a b c d e f h i : Value} (hb : Box w g t [a, b, c, d, e, f, h, i]) :
  w.cell? ⟨g, 0, none⟩ = some a ∧ w.cell? ⟨g, 1, none⟩ = some b ∧ w.cell? ⟨g, 2, none⟩ = some c ∧ w.cell? ⟨g, 3, none⟩ = some d ∧ w.cell? ⟨g, 4, none⟩ = some e ∧ w.cell? ⟨g, 5, none⟩ = some f ∧ w.cell? ⟨g, 6, none⟩ = some h ∧ w.cell? ⟨g, 7, none⟩ = some i :=
 ⟨hb.cell 0, hb.cell 1, hb.cell 2, hb.cell 3, hb.cell 4, hb.cell 5, hb.cell 6, hb.cell 7⟩
def ThreePost (w : World) (r : StateD × Bool) (e : Ending) (w' : World) : Prop := e = .returned (.tuple #[.agg (stCells r.1).toArray, .bool r.2]) ∧ Below w.heap.size w w'
def StPost (w : World) (r : StateD) (e : Ending) (w' : World) : Prop := e = .returned (.agg (stCells r).toArray) ∧ Below w.heap.size w w'
theorem three_results {W : World} {a : Act} {g : Nat} {c0 c1 c2 c3 c4 c5 c6 c7 : Value} {n : Bool} (hb : Box W g 45 [c0, c1, c2, c3, c4, c5, c6, c7]) (h4 : a.tmps.getD 6 undef = .pointer (some ⟨g, 0, none⟩)) (h5 : a.tmps.getD 7 undef = .bool n) :
  (results Tryz.f13 a.tmps).run Tryz.prog W = .ok (.tuple #[.agg #[c0, c1, c2, c3, c4, c5, c6, c7], .bool n]) W := by
 obtain ⟨e0, e1, e2, e3, e4, e5, e6, e7⟩ := hb.eight
 simp only [Array.getD_eq_getD_getElem?] at h4 h5
 simp [results, Tryz.results13, go_sem, h4, h5, e0, e1, e2, e3, e4, e5, e6, e7]
theorem three_any (was a b : StateD) (w : World) : Calls Tryz.prog 13 #[.agg (stCells was).toArray, .agg (stCells a).toArray, .agg (stCells b).toArray] w (ThreePost w (threeF was a b)) := by
 have h1 := fun W => run_eql_state a b W
 have h2 := fun W => run_eql_state b was W
 have h3 := fun W => run_eql_state a was W
 have hf : threeF was a b = if decide (a = b) = true ∨ decide (b = was) = true then (a, true) else if decide (a = was) = true then (b, true) else (was, false) := by
  unfold threeF; simp only [decide_eq_true_eq]
 obtain ⟨e1, he1⟩ : ∃ x, x = decide (a = b) := ⟨_, rfl⟩
 obtain ⟨e2, he2⟩ : ∃ x, x = decide (b = was) := ⟨_, rfl⟩
 obtain ⟨e3, he3⟩ : ∃ x, x = decide (a = was) := ⟨_, rfl⟩
 rw [← he1] at h1 hf
 rw [← he2] at h2 hf
 rw [← he3] at h3 hf
 clear he1 he2 he3
 have hgd := state_guard
 obtain ⟨r, hr⟩ : ∃ r, r = threeF was a b := ⟨_, rfl⟩
 rw [← hr] at hf ⊢
 have Hr := Lib.hid hf
 clear hr hf
 obtain ⟨at_, ae, ⟨a1, a2, a3, a4, a5⟩, ai⟩ := a
 obtain ⟨bt, be, ⟨b1, b2, b3, b4, b5⟩, bi⟩ := b
 obtain ⟨wt, we, ⟨x1, x2, x3, x4, x5⟩, wi⟩ := was
 simp only [stCells] at h1 h2 h3 ⊢
 have ZA := Lib.hid (boxes4 w (stCells ⟨wt, we, ⟨x1, x2, x3, x4, x5⟩, wi⟩) (stCells ⟨at_, ae, ⟨a1, a2, a3, a4, a5⟩, ai⟩) (stCells ⟨bt, be, ⟨b1, b2, b3, b4, b5⟩, bi⟩) (stCells ⟨at_, ae, ⟨a1, a2, a3, a4, a5⟩, ai⟩) 45 45 45 45)
 have ZB := Lib.hid (boxes4 w (stCells ⟨wt, we, ⟨x1, x2, x3, x4, x5⟩, wi⟩) (stCells ⟨at_, ae, ⟨a1, a2, a3, a4, a5⟩, ai⟩) (stCells ⟨bt, be, ⟨b1, b2, b3, b4, b5⟩, bi⟩) (stCells ⟨bt, be, ⟨b1, b2, b3, b4, b5⟩, bi⟩) 45 45 45 45)
 have ZW := Lib.hid (boxes4 w (stCells ⟨wt, we, ⟨x1, x2, x3, x4, x5⟩, wi⟩) (stCells ⟨at_, ae, ⟨a1, a2, a3, a4, a5⟩, ai⟩) (stCells ⟨bt, be, ⟨b1, b2, b3, b4, b5⟩, bi⟩) (stCells ⟨wt, we, ⟨x1, x2, x3, x4, x5⟩, wi⟩) 45 45 45 45)
 go_enter Tryz.func13, Tryz.ntmps13
 cases e1 <;> cases e2 <;> cases e3
 all_goals
  simp only [Bool.false_eq_true, or_self, or_true, true_or, if_true, if_false] at Hr
  go_wp2_with fail
  rw [Hr.out]
  first
   | exact bodyPost_ret (three_results ZA.out.2.2.2.1 rfl rfl) rfl ⟨rfl, ZA.out.2.2.2.2⟩
   | exact bodyPost_ret (three_results ZB.out.2.2.2.1 rfl rfl) rfl ⟨rfl, ZB.out.2.2.2.2⟩
   | exact bodyPost_ret (three_results ZW.out.2.2.2.1 rfl rfl) rfl ⟨rfl, ZW.out.2.2.2.2⟩
end Go.Proofs.YtihdnjnhhhafkaaGreatDoor
namespace Go.Proofs.YtihdnjnhhhafkaaGreatDoor
open Go.RowKit
theorem kind_results {W : World} {a : Act} {g : Nat} {c0 c1 c2 c3 c4 c5 c6 c7 : Value} (hb : Box W g 45 [c0, c1, c2, c3, c4, c5, c6, c7]) (h4 : a.tmps.getD 4 undef = .pointer (some ⟨g, 0, none⟩)) :
  (results Tryz.f14 a.tmps).run Tryz.prog W = .ok (.agg #[c0, c1, c2, c3, c4, c5, c6, c7]) W := by
 obtain ⟨e0, e1, e2, e3, e4, e5, e6, e7⟩ := hb.eight
 simp only [Array.getD_eq_getD_getElem?] at h4
 simp [results, Tryz.results14, go_sem, h4, e0, e1, e2, e3, e4, e5, e6, e7]
theorem field_results {W : World} {a : Act} {g : Nat} {c0 c1 c2 c3 c4 c5 c6 c7 : Value} (hb : Box W g 45 [c0, c1, c2, c3, c4, c5, c6, c7]) (h4 : a.tmps.getD 4 undef = .pointer (some ⟨g, 0, none⟩)) :
  (results Tryz.f35 a.tmps).run Tryz.prog W = .ok (.agg #[c0, c1, c2, c3, c4, c5, c6, c7]) W := by
 obtain ⟨e0, e1, e2, e3, e4, e5, e6, e7⟩ := hb.eight
 simp only [Array.getD_eq_getD_getElem?] at h4
 simp [results, Tryz.results35, go_sem, h4, e0, e1, e2, e3, e4, e5, e6, e7]
theorem mkind_any (S : Nat → Prop) (vb : Value) (b : BookD) (name : ByteArray) (w : World) (hb0 : RSl 5 96 RType S w [vb] b) : Calls Tryz.prog 14 #[.agg #[vb], .string name] w (StPost w (kindS b name)) := by
 obtain ⟨A, cap, rfl, hlc, hlb⟩ := hb0.form
 have HB := Lib.hid hb0
 obtain ⟨x1, x2, x3⟩ := boxes2 w [.slice A b.length cap] [.bool false, .bool false, .int .i64 0, .string ⟨#[]⟩, .string ⟨#[]⟩, .int .i64 0, .int .i64 0, .string ⟨#[]⟩] 24 45
 clear hb0
 go_enter Tryz.func14, Tryz.ntmps14
 go_wp2_with fail
 refine (find_any S _ b name _ ((RSl.fair RType.fair).below HB.out x3)).mono ?_
 rintro e w1 ⟨cs3, rfl, hr3, hb1⟩
 obtain ⟨B1, l1, B2, l2, B3, l3, rfl, -, -, -⟩ := hr3.parts
 have hw1 := below_via x3 hb1 x3.size
 have y2 := x2.below hb1 x2.lt
 obtain ⟨ty, hty⟩ : ∃ ty, ty = (findT b name).getD TypeD.zero := ⟨_, rfl⟩
 obtain ⟨ok, hok⟩ : ∃ ok, ok = (findT b name).isSome := ⟨_, rfl⟩
 have Hr := Lib.hid (show kindS b name = ⟨ok, ty.enum, .zero, ⟨#[]⟩⟩ by rw [hok, hty]; rfl)
 rw [← hty, ← hok]
 obtain ⟨r0, r1, r2, r3, r4, r5, r6, r7⟩ := y2.eight
 have g0 := y2.frozen 0
 have g1 := y2.frozen 1
 have g2 := y2.frozen 2
 have g3 := y2.frozen 3
 have g4 := y2.frozen 4
 have g5 := y2.frozen 5
 have g6 := y2.frozen 6
 have g7 := y2.frozen 7
 have hlr := y2.lt
 clear hty hok hr3 hb1 x1 x2 x3
 go_wp2_with fail
 change bodyPost _ _ _ _ _ ((setCells w1 (w.heap.size + 1) 0 [.bool ok, .bool ty.enum, .int .i64 0, .string ⟨#[]⟩, .string ⟨#[]⟩, .int .i64 0, .int .i64 0, .string ⟨#[]⟩]).alloc (.cells #[.string ty.name, .bool ty.enum, .slice B1 ty.fields.length l1, .slice B2 ty.gone.length l2, .slice B3 ty.items.length l3] 38))
 have hb5 := (y2.setCells [.bool ok, .bool ty.enum, .int .i64 0, .string ⟨#[]⟩, .string ⟨#[]⟩, .int .i64 0, .int .i64 0, .string ⟨#[]⟩] rfl).alloc (.cells #[.string ty.name, .bool ty.enum, .slice B1 ty.fields.length l1, .slice B2 ty.gone.length l2, .slice B3 ty.items.length l3] 38)
 have hw5 := below_setCells (g := w.heap.size + 1) (by go_light; omega) [.bool ok, .bool ty.enum, .int .i64 0, .string ⟨#[]⟩, .string ⟨#[]⟩, .int .i64 0, .int .i64 0, .string ⟨#[]⟩] 0 _ hw1
 have hw6 := hw5.alloc hw5.size (.cells #[.string ty.name, .bool ty.enum, .slice B1 ty.fields.length l1, .slice B2 ty.gone.length l2, .slice B3 ty.items.length l3] 38)
 clear hw5 r0 r1 r2 r3 r4 r5 r6 r7 g0 g1 g2 g3 g4 g5 g6 g7
 generalize (setCells w1 (w.heap.size + 1) 0 _).alloc _ = W5 at hb5 hw6 ⊢
 rw [Hr.out]
 exact bodyPost_ret (kind_results hb5 rfl) rfl ⟨rfl, hw6⟩
end Go.Proofs.YtihdnjnhhhafkaaGreatDoor
namespace Go.Proofs.YtihdnjnhhhafkaaGreatDoor
open Go.RowKit
theorem field_any (S : Nat → Prop) (cs : List Value) (t : TypeD) (id : Int) (w : World) (ht : RType S w cs t) : Calls Tryz.prog 35 #[.agg cs.toArray, .int .i64 id] w (StPost w (fieldS t id)) := by
 obtain ⟨B1, l1, B2, l2, B3, l3, rfl, -, -, -⟩ := ht.parts
 have HT := Lib.hid ht
 obtain ⟨x1, x2, x3⟩ := boxes2 w [.string t.name, .bool t.enum, .slice B1 t.fields.length l1, .slice B2 t.gone.length l2, .slice B3 t.items.length l3] [.bool false, .bool false, .int .i64 0, .string ⟨#[]⟩, .string ⟨#[]⟩, .int .i64 0, .int .i64 0, .string ⟨#[]⟩] 38 45
 obtain ⟨c0, c1, c2, c3, c4⟩ := x1.five
 have hl1 := x1.lt
 clear ht
 go_enter Tryz.func35, Tryz.ntmps35
 go_wp2_with fail
 refine (fieldOf_any S _ t id _ (RType.fair.below HT.out x3)).mono ?_
 rintro e w1 ⟨rfl, hb1⟩
 have hw1 := below_via x3 hb1 x3.size
 have y2 := x2.below hb1 x2.lt
 obtain ⟨f, hty⟩ : ∃ f, f = (fieldOf t id).getD FieldD.zero := ⟨_, rfl⟩
 obtain ⟨ok, hok⟩ : ∃ ok, ok = (fieldOf t id).isSome := ⟨_, rfl⟩
 have Hr := Lib.hid (show fieldS t id = ⟨ok, false, f, ⟨#[]⟩⟩ by rw [hok, hty]; rfl)
 rw [← hty, ← hok]
 unfold fieldCells
 obtain ⟨r0, r1, r2, r3, r4, r5, r6, r7⟩ := y2.eight
 have g0 := y2.frozen 0
 have g1 := y2.frozen 1
 have g2 := y2.frozen 2
 have g3 := y2.frozen 3
 have g4 := y2.frozen 4
 have g5 := y2.frozen 5
 have g6 := y2.frozen 6
 have g7 := y2.frozen 7
 have hlr := y2.lt
 clear hty hok hb1 x1 x2 x3 c0 c1 c2 c3 c4 hl1
 go_wp2_with fail
 change bodyPost _ _ _ _ _ ((setCells w1 (w.heap.size + 1) 0 [.bool ok, .bool false, .int .i64 f.id, .string f.name, .string f.type, .int .i64 f.kind, .int .i64 f.rule, .string ⟨#[]⟩]).alloc (.cells #[.int .i64 f.id, .string f.name, .string f.type, .int .i64 f.kind, .int .i64 f.rule] 43))
 have hb5 := (y2.setCells [.bool ok, .bool false, .int .i64 f.id, .string f.name, .string f.type, .int .i64 f.kind, .int .i64 f.rule, .string ⟨#[]⟩] rfl).alloc (.cells #[.int .i64 f.id, .string f.name, .string f.type, .int .i64 f.kind, .int .i64 f.rule] 43)
 have hw5 := below_setCells (g := w.heap.size + 1) (by go_light; omega) [.bool ok, .bool false, .int .i64 f.id, .string f.name, .string f.type, .int .i64 f.kind, .int .i64 f.rule, .string ⟨#[]⟩] 0 _ hw1
 have hw6 := hw5.alloc hw5.size (.cells #[.int .i64 f.id, .string f.name, .string f.type, .int .i64 f.kind, .int .i64 f.rule] 43)
 clear hw5 r0 r1 r2 r3 r4 r5 r6 r7 g0 g1 g2 g3 g4 g5 g6 g7
 generalize (setCells w1 (w.heap.size + 1) 0 _).alloc _ = W5 at hb5 hw6 ⊢
 rw [Hr.out]
 exact bodyPost_ret (field_results hb5 rfl) rfl ⟨rfl, hw6⟩
end Go.Proofs.YtihdnjnhhhafkaaGreatDoor
namespace Go.Proofs.YtihdnjnhhhafkaaGreatDoor
open Go.RowKit
theorem gone_results {W : World} {a : Act} {g : Nat} {c0 c1 c2 c3 c4 c5 c6 c7 : Value} (hb : Box W g 45 [c0, c1, c2, c3, c4, c5, c6, c7]) (h4 : a.tmps.getD 4 undef = .pointer (some ⟨g, 0, none⟩)) :
  (results Tryz.f36 a.tmps).run Tryz.prog W = .ok (.agg #[c0, c1, c2, c3, c4, c5, c6, c7]) W := by
 obtain ⟨e0, e1, e2, e3, e4, e5, e6, e7⟩ := hb.eight
 simp only [Array.getD_eq_getD_getElem?] at h4
 simp [results, Tryz.results36, go_sem, h4, e0, e1, e2, e3, e4, e5, e6, e7]
theorem item_results {W : World} {a : Act} {g : Nat} {c0 c1 c2 c3 c4 c5 c6 c7 : Value} (hb : Box W g 45 [c0, c1, c2, c3, c4, c5, c6, c7]) (h4 : a.tmps.getD 4 undef = .pointer (some ⟨g, 0, none⟩)) :
  (results Tryz.f38 a.tmps).run Tryz.prog W = .ok (.agg #[c0, c1, c2, c3, c4, c5, c6, c7]) W := by
 obtain ⟨e0, e1, e2, e3, e4, e5, e6, e7⟩ := hb.eight
 simp only [Array.getD_eq_getD_getElem?] at h4
 simp [results, Tryz.results38, go_sem, h4, e0, e1, e2, e3, e4, e5, e6, e7]
def SignPur (b : Bool) (w : World) (e : Ending) (w' : World) : Prop := ∃ i : Int, e = .returned (.int .i64 i) ∧ Hid (decide (0 ≤ i) = b) ∧ w' = w
theorem indexI_any (S : Nat → Prop) (v : Value) (l : List Int) (x : Int) (w : World) (hl : RSl 1 8 RInt S w [v] l) :
  Calls Tryz.prog 67 #[v, .int .i64 x] w (SignPur (hasI l x) w) := by
 obtain ⟨A, cap, rfl, hlc, hlb⟩ := hl.form
 have HL := Lib.hid hl
 clear hl
 go_enter Tryz.func67, Tryz.ntmps67
 go_wp2_with fail
 go_loop [8] (fun i => ∃ k : Nat, i = .int .i64 k ∧ k ≤ l.length ∧ Hid (hasI (l.drop k) x = hasI l x)) (fun i => l.length - (intOf i).toNat)
 case atStart => exact ⟨0, rfl, by omega, (show _ = _ by rw [List.drop_zero])⟩
 case round =>
  obtain ⟨k, rfl, hk, hn⟩ := hrel
  by_cases hlt : k < l.length
  ·obtain ⟨g, o, es, rfl, hS, hg, hes, hr, hc⟩ := HL.out.at_ hlt
   have hd : l.drop k = l[k] :: l.drop (k + 1) := List.drop_eq_getElem_cons hlt
   obtain ⟨y, hye⟩ : ∃ y, y = l[k] := ⟨_, rfl⟩
   rw [← hye] at hr hd
   have hr' : es = [.int .i64 y] := hr
   subst hr'
   have q0 : w.cell? ⟨g, o + k, none⟩ = some (.int .i64 y) := by have := hc.at_ 0 rfl; simpa using this
   have hh : hasI l x = (decide (y = x) || hasI (l.drop (k + 1)) x) := by rw [← hn.out, hd]; rfl
   by_cases he : x = y
   ·subst he
    have Hi := Lib.hid (show hasI l x = true by rw [hh]; simp)
    clear hr hc hye hes hh hd hn
    go_wp2_with fail
    go_ret
    refine ⟨_, rfl, ?_, rfl⟩
    show _ = _
    rw [Hi.out]; simp
   ·have hne : (x == y) = false := by simpa using he
    have Hi := Lib.hid (show hasI (l.drop (k + 1)) x = hasI l x by rw [hh, decide_eq_false (fun h => he h.symm)]; rfl)
    clear hr hc hye hes hh hd hn
    go_wp2_with fail
    go_round
    case rel => exact ⟨k + 1, by go_num, by omega, Hi⟩
    case measure => simp [intOf]; omega
  ·have Hi := Lib.hid (show hasI l x = false by rw [← hn.out, List.drop_eq_nil_of_le (by omega)]; rfl)
   clear hn
   go_wp2_with fail
   go_ret
   refine ⟨_, rfl, ?_, rfl⟩
   show _ = _
   rw [Hi.out]; rfl
theorem containsI_any (S : Nat → Prop) (v : Value) (l : List Int) (x : Int) (w : World) (hl : RSl 1 8 RInt S w [v] l) :
  Calls Tryz.prog 50 #[v, .int .i64 x] w (Pur w (.bool (hasI l x))) := by
 have HL := Lib.hid hl
 clear hl
 go_enter Tryz.func50, Tryz.ntmps50
 go_wp2_with fail
 refine (indexI_any S v l x _ HL.out).mono ?_
 rintro e w1 ⟨i, rfl, Hi, rfl⟩
 go_wp2_with fail
 go_ret
 exact ⟨ret_b (by first | exact Hi.out | (rw [← Hi.out]; simp)), rfl⟩
theorem gone_any (S : Nat → Prop) (cs : List Value) (t : TypeD) (id : Int) (w : World) (ht : RType S w cs t) : Calls Tryz.prog 36 #[.agg cs.toArray, .int .i64 id] w (StPost w (goneS t id)) := by
 obtain ⟨B1, l1, B2, l2, B3, l3, rfl, -, hG, -⟩ := ht.parts
 obtain ⟨x1, x2, x3⟩ := boxes2 w [.string t.name, .bool t.enum, .slice B1 t.fields.length l1, .slice B2 t.gone.length l2, .slice B3 t.items.length l3] [.bool false, .bool false, .int .i64 0, .string ⟨#[]⟩, .string ⟨#[]⟩, .int .i64 0, .int .i64 0, .string ⟨#[]⟩] 38 45
 have hG2 := (RSl.fair RInt.fair).below hG x3
 have HC := Lib.hid (containsI_any S _ t.gone id _ hG2)
 obtain ⟨c0, c1, c2, c3, c4⟩ := x1.five
 have hl1 := x1.lt
 obtain ⟨ok, hok⟩ : ∃ ok, ok = hasI t.gone id := ⟨_, rfl⟩
 have Hr := Lib.hid (show goneS t id = ⟨ok, false, .zero, ⟨#[]⟩⟩ by rw [hok]; rfl)
 rw [← hok] at HC
 clear ht hG hG2 hok
 go_enter Tryz.func36, Tryz.ntmps36
 obtain ⟨r0, r1, r2, r3, r4, r5, r6, r7⟩ := x2.eight
 have g0 := x2.frozen 0
 have g1 := x2.frozen 1
 have g2 := x2.frozen 2
 have g3 := x2.frozen 3
 have g4 := x2.frozen 4
 have g5 := x2.frozen 5
 have g6 := x2.frozen 6
 have g7 := x2.frozen 7
 have hlr := x2.lt
 go_wp2_with fail
 refine HC.out.mono ?_
 rintro e w1 ⟨rfl, rfl⟩
 clear HC
 have hb5 := x2.setCells [.bool ok, .bool false, .int .i64 0, .string ⟨#[]⟩, .string ⟨#[]⟩, .int .i64 0, .int .i64 0, .string ⟨#[]⟩] rfl
 have hw5 := below_setCells (g := w.heap.size + 1) (by go_light; omega) [.bool ok, .bool false, .int .i64 0, .string ⟨#[]⟩, .string ⟨#[]⟩, .int .i64 0, .int .i64 0, .string ⟨#[]⟩] 0 _ x3
 clear c0 c1 c2 c3 c4 x1
 generalize (w.alloc _).alloc _ = W at *
 go_wp2_with fail
 change bodyPost _ _ _ _ _ (setCells W (w.heap.size + 1) 0 [.bool ok, .bool false, .int .i64 0, .string ⟨#[]⟩, .string ⟨#[]⟩, .int .i64 0, .int .i64 0, .string ⟨#[]⟩])
 clear r0 r1 r2 r3 r4 r5 r6 r7 g0 g1 g2 g3 g4 g5 g6 g7
 generalize setCells W (w.heap.size + 1) 0 _ = W5 at hb5 hw5 ⊢
 rw [Hr.out]
 exact bodyPost_ret (gone_results hb5 rfl) rfl ⟨rfl, hw5⟩
theorem item_any (S : Nat → Prop) (cs : List Value) (t : TypeD) (n : Int) (w : World) (ht : RType S w cs t) : Calls Tryz.prog 38 #[.agg cs.toArray, .int .i64 n] w (StPost w (itemS t n)) := by
 obtain ⟨B1, l1, B2, l2, B3, l3, rfl, -, -, hI⟩ := ht.parts
 obtain ⟨A', cap', h', hlc, hlb⟩ := hI.form
 obtain ⟨x1, x2, x3⟩ := boxes2 w [.string t.name, .bool t.enum, .slice B1 t.fields.length l1, .slice B2 t.gone.length l2, .slice B3 t.items.length l3] [.bool false, .bool false, .int .i64 0, .string ⟨#[]⟩, .string ⟨#[]⟩, .int .i64 0, .int .i64 0, .string ⟨#[]⟩] 38 45
 have HI := Lib.hid hI
 obtain ⟨c0, c1, c2, c3, c4⟩ := x1.five
 have hl1 := x1.lt
 clear ht hI h'
 go_enter Tryz.func38, Tryz.ntmps38
 go_wp2_with fail
 go_loopw [10] (fun i wr => ∃ k : Nat, i = .int .i64 k ∧ k ≤ t.items.length ∧ Hid ((t.items.drop k).find? (fun x => decide (x.n = n)) = itemOf t n) ∧ Box wr (w.heap.size + 1) 45 [.bool false, .bool false, .int .i64 0, .string ⟨#[]⟩, .string ⟨#[]⟩, .int .i64 0, .int .i64 0, .string ⟨#[]⟩] ∧ Below w.heap.size w wr) (fun i _ => t.items.length - (intOf i).toNat)
 case atStart => exact ⟨0, rfl, by omega, (show _ = _ by rw [List.drop_zero]; rfl), x2, x3⟩
 case round =>
  obtain ⟨k, rfl, hk, he, hbx, hb⟩ := hrel
  clear x1 x2 x3 c0 c1 c2 c3 c4 hl1
  by_cases hlt : k < t.items.length
  ·obtain ⟨g, o, rfl, hS, hg⟩ := HI.out.base (by omega)
   have hc := (HI.out.flat (enc := itemCells) hlt).keep (Keep.of_below hb) hS
   have hgw : g < wr.heap.size := Nat.lt_of_lt_of_le hg hb.size
   have hd : t.items.drop k = t.items[k] :: t.items.drop (k + 1) := List.drop_eq_getElem_cons hlt
   obtain ⟨x, hxe⟩ : ∃ x, x = t.items[k] := ⟨_, rfl⟩
   rw [← hxe] at hc hd
   rw [hd] at he
   obtain ⟨xname, xn⟩ := x
   have q0 : wr.cell? ⟨g, o + k * 2, none⟩ = some (.string xname) := hc.at_ 0 rfl
   have q1 : wr.cell? ⟨g, o + k * 2 + 1, none⟩ = some (.int .i64 xn) := hc.at_ 1 rfl
   clear hc hd hxe
   have hwa := hb.alloc hb.size (.cells #[.string xname, .int .i64 xn] 62)
   by_cases hn : xn = n
   ·subst hn
    have Hr := Lib.hid (show itemS t xn = ⟨true, false, .zero, xname⟩ by unfold itemS; rw [← he.out]; simp)
    have hb5 := (hbx.setCells [.bool true, .bool false, .int .i64 0, .string ⟨#[]⟩, .string ⟨#[]⟩, .int .i64 0, .int .i64 0, .string xname] rfl).alloc (.cells #[.string xname, .int .i64 xn] 62)
    have hw5 := below_setCells (g := w.heap.size + 1) (by go_light; omega) [.bool true, .bool false, .int .i64 0, .string ⟨#[]⟩, .string ⟨#[]⟩, .int .i64 0, .int .i64 0, .string xname] 0 _ hb
    have hw6 := hw5.alloc hw5.size (.cells #[.string xname, .int .i64 xn] 62)
    obtain ⟨r0, r1, r2, r3, r4, r5, r6, r7⟩ := hbx.eight
    have g0 := hbx.frozen 0
    have g1 := hbx.frozen 1
    have g2 := hbx.frozen 2
    have g3 := hbx.frozen 3
    have g4 := hbx.frozen 4
    have g5 := hbx.frozen 5
    have g6 := hbx.frozen 6
    have g7 := hbx.frozen 7
    have hlr := hbx.lt
    clear he hw5 hwa
    go_wp2_with fail
    change bodyPost _ _ _ _ _ ((setCells wr (w.heap.size + 1) 0 [.bool true, .bool false, .int .i64 0, .string ⟨#[]⟩, .string ⟨#[]⟩, .int .i64 0, .int .i64 0, .string xname]).alloc (.cells #[.string xname, .int .i64 xn] 62))
    clear r0 r1 r2 r3 r4 r5 r6 r7 g0 g1 g2 g3 g4 g5 g6 g7
    generalize (setCells wr (w.heap.size + 1) 0 _).alloc _ = W5 at hb5 hw6 ⊢
    rw [Hr.out]
    exact bodyPost_ret (item_results hb5 rfl) rfl ⟨rfl, hw6⟩
   ·have hne : (xn == n) = false := by simpa using hn
    have He := Lib.hid (show (t.items.drop (k + 1)).find? (fun x => decide (x.n = n)) = itemOf t n by rw [← he.out, List.find?_cons]; simp [hn])
    have hbn := hbx.alloc (.cells #[.string xname, .int .i64 xn] 62)
    clear he hbx
    go_wp2_with fail
    go_roundw
    case rel => exact ⟨k + 1, by go_num, by omega, He, hbn, hwa⟩
    case measure => simp [intOf]; omega
  ·have Hr := Lib.hid (show itemS t n = noS by unfold itemS; rw [← he.out, List.drop_eq_nil_of_le (by omega)]; rfl)
   have hb5 := hbx.setCells [.bool false, .bool false, .int .i64 0, .string ⟨#[]⟩, .string ⟨#[]⟩, .int .i64 0, .int .i64 0, .string ⟨#[]⟩] rfl
   have hw5 := below_setCells (g := w.heap.size + 1) (by go_light; omega) [.bool false, .bool false, .int .i64 0, .string ⟨#[]⟩, .string ⟨#[]⟩, .int .i64 0, .int .i64 0, .string ⟨#[]⟩] 0 _ hb
   obtain ⟨r0, r1, r2, r3, r4, r5, r6, r7⟩ := hbx.eight
   have g0 := hbx.frozen 0
   have g1 := hbx.frozen 1
   have g2 := hbx.frozen 2
   have g3 := hbx.frozen 3
   have g4 := hbx.frozen 4
   have g5 := hbx.frozen 5
   have g6 := hbx.frozen 6
   have g7 := hbx.frozen 7
   have hlr := hbx.lt
   clear he
   go_wp2_with fail
   change bodyPost _ _ _ _ _ (setCells wr (w.heap.size + 1) 0 [.bool false, .bool false, .int .i64 0, .string ⟨#[]⟩, .string ⟨#[]⟩, .int .i64 0, .int .i64 0, .string ⟨#[]⟩])
   clear r0 r1 r2 r3 r4 r5 r6 r7 g0 g1 g2 g3 g4 g5 g6 g7
   generalize setCells wr (w.heap.size + 1) 0 _ = W5 at hb5 hw5 ⊢
   rw [Hr.out]
   exact bodyPost_ret (item_results hb5 rfl) rfl ⟨rfl, hw5⟩
end Go.Proofs.YtihdnjnhhhafkaaGreatDoor
namespace Go.Proofs.YtihdnjnhhhafkaaGreatDoor
open Go.RowKit Go.Sort
section
variable {α β : Type} [Inhabited β] {base e : Nat} {R : Rel α} {w : World} {xs : List α}
theorem Own.holds {enc : β → Value} {g cap n : Nat} {ys : List β} (h : Own base e 1 R NoT w (.slice (some ⟨g, 0, none⟩) n cap) xs) (hl : ys.length = xs.length)
  (hv : ∀ (k : Nat) (x : α) (y : β) (cs : List Value), xs[k]? = some x → ys[k]? = some y → R NoT w cs x → cs = [enc y]) : Holds enc w g 0 ys.toArray := by
 obtain ⟨css, h1, h2, h3, h4⟩ := h
 have hfr : ∀ i, w.frozen? ⟨g, i, none⟩ = false := by
  intro i
  rcases h1.2 with ⟨h0, _⟩ | ⟨g', cap', cur, h0, _, hh, _⟩
  ·cases h0
  ·simp only [Value.slice.injEq, Option.some.injEq, Addr.mk.injEq] at h0
   obtain ⟨⟨rfl, _, _⟩, _, _⟩ := h0
   simp [World.frozen?, hh]
 intro j hj
 have hj' : j < ys.length := by simpa using hj
 refine ⟨?_, hfr _⟩
 have hx : xs[j]? = some (xs[j]'(by omega)) := List.getElem?_eq_getElem (by omega)
 have hy : ys[j]? = some ys[j] := List.getElem?_eq_getElem hj'
 have hc : css[j]? = some (css[j]'(by omega)) := List.getElem?_eq_getElem (by omega)
 obtain ⟨hl1, hr⟩ := h4 j _ _ hx hc
 have hcs := hv j _ _ _ hx hy hr
 have hall : ∀ x ∈ css, x.length = 1 := by
  intro c hc
  obtain ⟨i, hi, rfl⟩ := List.getElem_of_mem hc
  exact (h4 i (xs[i]'(by omega)) _ (List.getElem?_eq_getElem (by omega)) (List.getElem?_eq_getElem hi)).1
 have hfl := flatten_get css 1 j 0 _ hall hc (by omega)
 rw [hcs] at hfl
 have := h1.cells (g := g) rfl (j * 1 + 0) (enc ys[j]) (by rw [hfl]; rfl)
 have hadd : (⟨g, 0, none⟩ : Addr).add (j * 1 + 0) = ⟨g, 0 + j, none⟩ := by unfold Addr.add; split <;> simp_all
 rw [hadd] at this
 rw [this]
 congr 2
 simp [getElem!_pos, hj']
end
theorem Lies.newAt {w : World} {g : Nat} {cs : List Value} {e : TypeId} (h : g = w.heap.size) : Lies (w.alloc (.cells cs.toArray e)) g 0 cs := h ▸ Lies.new w cs e
theorem heap_putRow {β : Type} [Inhabited β] (enc : β → Value) (w : World) (g off : Nat) (d : Array β) (k : Nat) (h : k ≠ g) : (putRow enc w g off d).heap[k]? = w.heap[k]? := by
 simp only [putRow, mapBlock, Array.getElem?_modify]
 rw [if_neg (fun e => h e.symm)]
theorem size_putRow {β : Type} [Inhabited β] (enc : β → Value) (w : World) (g off : Nat) (d : Array β) : (putRow enc w g off d).heap.size = w.heap.size := by simp [putRow, mapBlock]
theorem grown_put {β : Type} [Inhabited β] (enc : β → Value) (w : World) (n g off : Nat) (d : Array β) (os : Array Obj) : w.grownBy (grow (putRow enc (Sort.ahead w n) g off d) os) (some g) :=
 ⟨rfl, rfl, rfl, by
  have := size_putRow enc (Sort.ahead w n) g off d
  simp only [grow, Array.size_append]
  have e : (Sort.ahead w n).heap.size = w.heap.size := rfl
  omega, fun k hk hne => by
  have hs := size_putRow enc (Sort.ahead w n) g off d
  have e : (Sort.ahead w n).heap.size = w.heap.size := rfl
  rw [heap_grow_old _ os (by omega), heap_putRow enc _ g off d k (fun h => hne (by rw [h]))]
  rfl⟩
theorem put_cells {β : Type} [Inhabited β] {enc : β → Value} {w : World} {g n : Nat} {ys zs : List β} {os : Array Obj} (hH : Holds enc w g 0 ys.toArray) (hg : g < w.heap.size) (hl : zs.length = ys.length) :
  ∀ j (h : j < zs.length), (grow (putRow enc (Sort.ahead w n) g 0 zs.toArray) os).cell? ⟨g, j, none⟩ = some (enc zs[j]) := by
 intro j h
 have hs := size_putRow enc (Sort.ahead w n) g 0 zs.toArray
 have e : (Sort.ahead w n).heap.size = w.heap.size := rfl
 rw [cell?_grow _ _ _ (show g < _ by omega)]
 have := cell?_putRow enc (Sort.ahead w n) g 0 ys.toArray zs.toArray (holds_ahead enc w n g 0 _ hH) (by simpa using hl) j (by simpa using h)
 rw [Nat.zero_add] at this
 rw [this]
 congr 2
 simp [getElem!_pos, h]
theorem RSl.of_cells {α : Type} {by_ : Nat} {R : Rel α} {S : Nat → Prop} {w : World} {g cap : Nat} {xs : List α} (hs : S g) (hg : g < w.heap.size) (hc : xs.length ≤ cap) (hb : xs.length * by_ ≤ 140737488351232)
  (h : ∀ k x, xs[k]? = some x → ∃ v, w.cell? ⟨g, k, none⟩ = some v ∧ R S w [v] x) : RSl 1 by_ R S w [.slice (some ⟨g, 0, none⟩) xs.length cap] xs := by
 refine ⟨_, cap, rfl, hc, hb, fun k x hx => ?_⟩
 obtain ⟨v, h1, h2⟩ := h k x hx
 refine ⟨g, 0, [v], rfl, hs, hg, rfl, h2, fun j hj => ?_⟩
 have : j = 0 := by simpa using hj
 subst this
 simp only [Nat.zero_add, Nat.mul_one, Nat.add_zero]
 rw [h1]; rfl
end Go.Proofs.YtihdnjnhhhafkaaGreatDoor
