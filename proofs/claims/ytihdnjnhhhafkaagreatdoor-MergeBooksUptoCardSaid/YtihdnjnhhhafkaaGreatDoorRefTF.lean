/- Several texts of walks and laws in one file; what each proves stands at its head. -/
import Derived.Test.YtihdnjnhhhafkaaGreatDoorRefA
import Derived.Test.YtihdnjnhhhafkaaGreatDoorRefDecimal
import Derived.Test.YtihdnjnhhhafkaaGreatDoorMLaws
import Derived.Test.YtihdnjnhhhafkaaGreatDoorLates
set_option linter.all false
set_option maxRecDepth 100000
set_option maxHeartbeats 8000000
namespace Go.Proofs.YtihdnjnhhhafkaaGreatDoor
open Go.RowKit
theorem toldT_any (S : Nat → Prop) (vb : Value) (b : BookD) (name : ByteArray) (n : Int) (w : World) (hb : RSl 5 96 RType S w [vb] b) :
  Calls Tryz.prog 18 #[.agg #[vb], .string name, .int .u8 116, .int .i64 n] w (Ret w (.string (toldT b name))) := by
 obtain ⟨p, hp⟩ : ∃ p, p = toldT b name := ⟨_, rfl⟩
 rw [← hp]
 have Hp := Lib.hid hp
 clear hp
 obtain ⟨A, cap, rfl, -, -⟩ := hb.form
 obtain ⟨x1, x2⟩ := boxes1 w [.slice A b.length cap] 24
 have f1 := Lib.hid (fun W (h : Below w.heap.size w W) => typeOf_any (Old w) _ b name W ((RSl.fair RType.fair).below ((RSl.fair RType.fair).old hb) h))
 clear hb
 have m0 := x1.cell 0
 have ml := x1.lt
 go_enter Tryz.func18, Tryz.ntmps18
 go_wp2_with fail
 refine (f1.out _ x2).mono ?_
 rintro e w1 ⟨cs, rfl, hr, hb1⟩
 have hG := below_via x2 hb1 x2.size
 obtain ⟨t, ht⟩ : ∃ t, t = (findT b name).getD .zero := ⟨_, rfl⟩
 obtain ⟨is, his⟩ : ∃ is, is = (findT b name).isSome := ⟨_, rfl⟩
 have Ht := Lib.hid ht
 have His := Lib.hid his
 rw [← ht] at hr
 rw [← his]
 obtain ⟨A1, k1, A2, k2, A3, k3, rfl, -, -, -⟩ := hr.parts
 have z1 := Box.new w1 38 [.string t.name, .bool t.enum, .slice A1 t.fields.length k1, .slice A2 t.gone.length k2, .slice A3 t.items.length k3]
 have hG1 := hG.alloc hG.size (.cells [.string t.name, .bool t.enum, .slice A1 t.fields.length k1, .slice A2 t.gone.length k2, .slice A3 t.items.length k3].toArray 38)
 have hr1 := RType.fair.below (RType.fair.below hr hb1) ((Below.here w1).alloc (Nat.le_refl _) (.cells [.string t.name, .bool t.enum, .slice A1 t.fields.length k1, .slice A2 t.gone.length k2, .slice A3 t.items.length k3].toArray 38))
 clear m0 ml x1 x2 f1 hb1 hr hG ht his
 go_upto_region 2 with fail
 generalize w1.heap.size = T at z1 ⊢
 generalize (World.alloc w1 _) = V at z1 hG1 hr1 ⊢
 have e1 : p = if is = true then (if t.enum = true then ⟨#[101, 110, 117, 109]⟩ else ⟨#[109, 101, 115, 115, 97, 103, 101]⟩) else ⟨#[]⟩ := by rw [Hp.out, toldT, typeOf, ← His.out, ← Ht.out]
 have E1 := Lib.hid e1
 have q1 : V.cell? ⟨T, 1, none⟩ = some (.bool t.enum) := z1.cell 1
 have lT := z1.lt
 clear e1 hr1 z1
 cases is with
 | false =>
  go_wp2_with fail
  go_ret
  exact ⟨by rw [E1.out]; rfl, hG1⟩
 | true =>
  obtain ⟨en, hen⟩ : ∃ en, en = t.enum := ⟨_, rfl⟩
  rw [← hen] at E1 q1
  clear hen
  cases en with
  | true =>
   go_wp2_with fail
   go_ret
   exact ⟨by rw [E1.out]; rfl, hG1⟩
  | false =>
   go_wp2_with fail
   go_ret
   exact ⟨by rw [E1.out]; rfl, hG1⟩
theorem itoaB_one {n : Int} (h1 : 0 ≤ n) (h2 : n ≤ 9) : (itoaB n).size = 1 := by
 have : n = 0 ∨ n = 1 ∨ n = 2 ∨ n = 3 ∨ n = 4 ∨ n = 5 ∨ n = 6 ∨ n = 7 ∨ n = 8 ∨ n = 9 := by omega
 have hi : ∀ m : Nat, m < 10 → (itoaB (m : Int)).size = 1 := fun m hm => by
  unfold itoaB Lib.itoa
  rw [if_neg (by omega)]
  show (Lib.decDigits (m : Int).toNat).length = 1
  rw [Int.toNat_natCast, Lib.decDigits]
  simp [hm]
 obtain ⟨m, rfl⟩ := Int.eq_ofNat_of_zero_le h1
 exact hi m (by omega)
def FOk (f : FieldD) : Prop := 0 ≤ f.kind ∧ f.kind ≤ 9 ∧ 0 ≤ f.rule ∧ f.rule ≤ 9 ∧ f.name.size ≤ 100 ∧ f.type.size ≤ 100
theorem toldF_any (S : Nat → Prop) (vb : Value) (b : BookD) (name : ByteArray) (n : Int) (w : World) (hb : RSl 5 96 RType S w [vb] b) (hok : ∀ f, fieldOf (typeOf b name) n = some f → FOk f) :
  Calls Tryz.prog 18 #[.agg #[vb], .string name, .int .u8 102, .int .i64 n] w (Ret w (.string (toldF (typeOf b name) n))) := by
 have Hok := Lib.hid hok
 clear hok
 obtain ⟨p, hp⟩ : ∃ p, p = toldF (typeOf b name) n := ⟨_, rfl⟩
 rw [← hp]
 have Hp := Lib.hid hp
 clear hp
 obtain ⟨A, cap, rfl, -, -⟩ := hb.form
 obtain ⟨x1, x2⟩ := boxes1 w [.slice A b.length cap] 24
 have f1 := Lib.hid (fun W (h : Below w.heap.size w W) => typeOf_any (Old w) _ b name W ((RSl.fair RType.fair).below ((RSl.fair RType.fair).old hb) h))
 clear hb
 have m0 := x1.cell 0
 have ml := x1.lt
 go_enter Tryz.func18, Tryz.ntmps18
 go_wp2_with fail
 refine (f1.out _ x2).mono ?_
 rintro e w1 ⟨cs, rfl, hr, hb1⟩
 have hG := below_via x2 hb1 x2.size
 obtain ⟨t, ht⟩ : ∃ t, t = (findT b name).getD .zero := ⟨_, rfl⟩
 obtain ⟨is, his⟩ : ∃ is, is = (findT b name).isSome := ⟨_, rfl⟩
 have Ht := Lib.hid ht
 have His := Lib.hid his
 rw [← ht] at hr
 rw [← his]
 obtain ⟨A1, k1, A2, k2, A3, k3, rfl, -, -, -⟩ := hr.parts
 have z1 := Box.new w1 38 [.string t.name, .bool t.enum, .slice A1 t.fields.length k1, .slice A2 t.gone.length k2, .slice A3 t.items.length k3]
 have hG1 := hG.alloc hG.size (.cells [.string t.name, .bool t.enum, .slice A1 t.fields.length k1, .slice A2 t.gone.length k2, .slice A3 t.items.length k3].toArray 38)
 have hr1 := RType.fair.below (RType.fair.below hr hb1) ((Below.here w1).alloc (Nat.le_refl _) (.cells [.string t.name, .bool t.enum, .slice A1 t.fields.length k1, .slice A2 t.gone.length k2, .slice A3 t.items.length k3].toArray 38))
 clear m0 ml x1 x2 f1 hb1 hr hG ht his
 go_upto_region 2 with fail
 generalize w1.heap.size = T at z1 ⊢
 generalize (World.alloc w1 _) = V at z1 hG1 hr1 ⊢
 have ht2 : typeOf b name = t := by rw [typeOf, ← Ht.out]
 rw [ht2] at Hok Hp
 have lT := z1.lt
 cases is with
 | false =>
  have hn : t = .zero := by
   have h := His.out.symm
   rw [Option.isSome_eq_false_iff, Option.isNone_iff_eq_none] at h
   rw [Ht.out, h]; rfl
  clear z1 hr1 ht2
  go_wp2_with fail
  go_ret
  exact ⟨by rw [Hp.out, hn]; rfl, hG1⟩
 | true =>
  obtain ⟨q0, q1, q2, q3, q4⟩ := z1.five
  have hfi := Lib.hid (fun W (h : Below V.heap.size V W) => fieldIn_any (Old w) _ t n W (RType.fair.below hr1 h))
  obtain ⟨r, hr⟩ : ∃ r, r = fieldOf t n := ⟨_, rfl⟩
  rw [← hr] at hfi
  have Hr := Lib.hid hr
  clear z1 hr1 hr ht2 His Ht
  cases r with
  | none =>
   have Hp2 : Hid (p = ⟨#[]⟩) := by show _ = _; rw [Hp.out, toldF, ← Hr.out]
   clear Hp
   go_wp2_with fail
   refine (hfi.out _ (Below.here V)).mono ?_
   rintro e w2 ⟨rfl, hb2⟩
   have hG2 := below_via hG1 hb2 hG1.size
   simp only [fieldCells, Option.getD_none, FieldD.zero]
   go_wp2_with fail
   go_ret
   exact ⟨by rw [Hp2.out]; rfl, hG2.alloc hG2.size _⟩
  | some f =>
   obtain ⟨o1, o2, o3, o4, o5, o6⟩ := Hok.out f Hr.out.symm
   have s1 := itoaB_one o1 o2
   have s2 := itoaB_one o3 o4
   have Hd1 := Lib.hid (fun W => decimal_any f.kind W (by omega) (by omega))
   have Hd2 := Lib.hid (fun W => decimal_any f.rule W (by omega) (by omega))
   have Hp2 : Hid (p = itoaB f.kind ++ ⟨#[32]⟩ ++ itoaB f.rule ++ ⟨#[32]⟩ ++ f.name ++ ⟨#[32]⟩ ++ f.type) := by
    show _ = _
    rw [Hp.out, toldF, ← Hr.out]
    apply ByteArray.ext
    simp [ByteArray.data_append, itoaB, bytes]
   clear Hp Hok Hr o1 o2 o3 o4
   obtain ⟨fi, fn, ft, fk, fr⟩ := f
   dsimp only at o5 o6 s1 s2 Hd1 Hd2 Hp2
   obtain ⟨d1, hd1⟩ : ∃ d, d = itoaB fk := ⟨_, rfl⟩
   obtain ⟨d2, hd2⟩ : ∃ d, d = itoaB fr := ⟨_, rfl⟩
   rw [← hd1] at s1 Hd1 Hp2
   rw [← hd2] at s2 Hd2 Hp2
   clear hd1 hd2
   go_wp2_with fail
   refine (hfi.out _ (Below.here V)).mono ?_
   rintro e w2 ⟨rfl, hb2⟩
   have hG2 := below_via hG1 hb2 hG1.size
   simp only [fieldCells, Option.getD_some, Option.isSome_some]
   have z2 := Box.new w2 43 [.int .i64 fi, .string fn, .string ft, .int .i64 fk, .int .i64 fr]
   have hG3 := hG2.alloc hG2.size (.cells (#[.int .i64 fi, .string fn, .string ft, .int .i64 fk, .int .i64 fr]) 43)
   clear q0 q1 q2 q3 q4 lT hfi hb2 hG1 hG2
   go_upto_region 12 with fail
   generalize w2.heap.size = T2 at z2 ⊢
   generalize (World.alloc w2 _) = V2 at z2 hG3 ⊢
   have hS : (fun W' => World.cell? W' ⟨T2, 1, none⟩ = some (.string fn) ∧ World.cell? W' ⟨T2, 2, none⟩ = some (.string ft) ∧ World.cell? W' ⟨T2, 3, none⟩ = some (.int .i64 fk) ∧ World.cell? W' ⟨T2, 4, none⟩ = some (.int .i64 fr)) V2.drew := ⟨z2.cell 1, z2.cell 2, z2.cell 3, z2.cell 4⟩
   refine lateP_start (fun W' => World.cell? W' ⟨T2, 1, none⟩ = some (.string fn) ∧ World.cell? W' ⟨T2, 2, none⟩ = some (.string ft) ∧ World.cell? W' ⟨T2, 3, none⟩ = some (.int .i64 fk) ∧ World.cell? W' ⟨T2, 4, none⟩ = some (.int .i64 fr)) (fun _ => true) (by kernel_rfl) ?_
   have hG4 := below_drew hG3
   generalize V2.drew = Wd at hS hG4 ⊢
   have g1 : ¬ 9223372036854775807 < d1.size + 1 := by omega
   have g2 : ¬ 9223372036854775807 < d1.size + 1 + d2.size := by omega
   have g3 : ¬ 9223372036854775807 < d1.size + 1 + d2.size + 1 := by omega
   have g4 : ¬ 9223372036854775807 < d1.size + 1 + d2.size + 1 + fn.size := by omega
   have g5 : ¬ 9223372036854775807 < d1.size + 1 + d2.size + 1 + fn.size + 1 := by omega
   have g6 : ¬ 9223372036854775807 < d1.size + 1 + d2.size + 1 + fn.size + 1 + ft.size := by omega
   clear s1 s2 o5 o6 z2 hG3
   refine ppP 0 ?_
   try simp only [pu]
   refine tkP 1 hS ?_
   try simp only [pu]
   refine ppP 4 ?_
   try simp only [pu]
   refine tkP 5 hS ?_
   try simp only [pu]
   refine ppP 9 ?_
   try simp only [pu]
   refine tkP 10 hS ?_
   try simp only [pu]
   refine ppP 13 ?_
   try simp only [pu]
   refine tkP 14 hS ?_
   try simp only [pu]
   refine lateP_one (i := 2) rfl (by kernel_rfl) (fun K hK => ?_)
   go_simp
   refine (Hd1.out _).mono ?_
   rintro e w5 ⟨rfl, rfl⟩
   refine hK.out _ _ (fun _ _ => hS) ?_
   clear hK K
   try simp only [pu]
   refine ppP 3 ?_
   try simp only [pu]
   refine lateP_one (i := 6) rfl (by kernel_rfl) (fun K hK => ?_)
   go_simp
   refine (Hd2.out _).mono ?_
   rintro e w6 ⟨rfl, rfl⟩
   refine hK.out _ _ (fun _ _ => hS) ?_
   clear hK K
   try simp only [pu]
   refine ppP 7 ?_
   try simp only [pu]
   refine ppP 8 ?_
   try simp only [pu]
   refine ppP 11 ?_
   try simp only [pu]
   refine ppP 12 ?_
   try simp only [pu]
   refine ppP 15 ?_
   try simp only [pu]
   refine ppP 16 ?_
   try simp only [pu]
   refine lateP_done (by kernel_rfl) ?_ _
   go_wp2_with fail
   go_ret
   exact ⟨by rw [Hp2.out]; rfl, hG4⟩
theorem RType.three {S : Nat → Prop} {w : World} {n : ByteArray} {e : Bool} {v1 v2 v3 : Value} {t : TypeD} (h : RType S w [.string n, .bool e, v1, v2, v3] t) : RSl 5 56 RField S w [v1] t.fields ∧ RSl 1 8 RInt S w [v2] t.gone ∧ RSl 2 24 RItem S w [v3] t.items := by
 obtain ⟨vf, vg, vi, h, a, b, c⟩ := h
 simp only [List.cons.injEq, and_true] at h
 obtain ⟨_, _, rfl, rfl, rfl⟩ := h
 exact ⟨a, b, c⟩
theorem toldG_any (S : Nat → Prop) (vb : Value) (b : BookD) (name : ByteArray) (n : Int) (w : World) (hb : RSl 5 96 RType S w [vb] b) :
  Calls Tryz.prog 18 #[.agg #[vb], .string name, .int .u8 103, .int .i64 n] w (Ret w (.string (toldG (typeOf b name) n))) := by
 obtain ⟨p, hp⟩ : ∃ p, p = toldG (typeOf b name) n := ⟨_, rfl⟩
 rw [← hp]
 have Hp := Lib.hid hp
 clear hp
 obtain ⟨A, cap, rfl, -, -⟩ := hb.form
 obtain ⟨x1, x2⟩ := boxes1 w [.slice A b.length cap] 24
 have f1 := Lib.hid (fun W (h : Below w.heap.size w W) => typeOf_any (Old w) _ b name W ((RSl.fair RType.fair).below ((RSl.fair RType.fair).old hb) h))
 clear hb
 have m0 := x1.cell 0
 have ml := x1.lt
 go_enter Tryz.func18, Tryz.ntmps18
 go_wp2_with fail
 refine (f1.out _ x2).mono ?_
 rintro e w1 ⟨cs, rfl, hr, hb1⟩
 have hG := below_via x2 hb1 x2.size
 obtain ⟨t, ht⟩ : ∃ t, t = (findT b name).getD .zero := ⟨_, rfl⟩
 obtain ⟨is, his⟩ : ∃ is, is = (findT b name).isSome := ⟨_, rfl⟩
 have Ht := Lib.hid ht
 have His := Lib.hid his
 rw [← ht] at hr
 rw [← his]
 obtain ⟨A1, k1, A2, k2, A3, k3, rfl, -, -, -⟩ := hr.parts
 have z1 := Box.new w1 38 [.string t.name, .bool t.enum, .slice A1 t.fields.length k1, .slice A2 t.gone.length k2, .slice A3 t.items.length k3]
 have hG1 := hG.alloc hG.size (.cells [.string t.name, .bool t.enum, .slice A1 t.fields.length k1, .slice A2 t.gone.length k2, .slice A3 t.items.length k3].toArray 38)
 have hr1 := RType.fair.below (RType.fair.below hr hb1) ((Below.here w1).alloc (Nat.le_refl _) (.cells [.string t.name, .bool t.enum, .slice A1 t.fields.length k1, .slice A2 t.gone.length k2, .slice A3 t.items.length k3].toArray 38))
 clear m0 ml x1 x2 f1 hb1 hr hG ht his
 go_upto_region 2 with fail
 generalize w1.heap.size = T at z1 ⊢
 generalize (World.alloc w1 _) = V at z1 hG1 hr1 ⊢
 have ht2 : typeOf b name = t := by rw [typeOf, ← Ht.out]
 rw [ht2] at Hp
 have lT := z1.lt
 cases is with
 | false =>
  have hn : t = .zero := by
   have h := His.out.symm
   rw [Option.isSome_eq_false_iff, Option.isNone_iff_eq_none] at h
   rw [Ht.out, h]; rfl
  clear z1 hr1 ht2
  go_wp2_with fail
  go_ret
  exact ⟨by rw [Hp.out, hn]; rfl, hG1⟩
 | true =>
  have HG := Lib.hid hr1.three.2.1
  obtain ⟨q0, q1, q2, q3, q4⟩ := z1.five
  obtain ⟨l, hl⟩ : ∃ l, l = t.gone := ⟨_, rfl⟩
  have Hp2 : Hid (p = if hasI l n = true then ⟨#[103, 111, 110, 101]⟩ else ⟨#[]⟩) := by show _ = _; rw [Hp.out, toldG, hl]
  rw [← hl] at HG q3
  clear z1 hr1 ht2 His Ht hl Hp q0 q1 q2 q4
  obtain ⟨_, _, -, -, hlb⟩ := HG.out.form
  go_wp2_with fail
  clear q3 lT
  go_loopw [60] (fun i wr => ∃ k : Nat, i = .int .i64 k ∧ k ≤ l.length ∧ Hid (hasI (l.drop k) n = hasI l n) ∧ wr = V) (fun i _ => l.length - (intOf i).toNat)
  case atStart => exact ⟨0, rfl, Nat.zero_le _, rfl, rfl⟩
  case round =>
   obtain ⟨k, rfl, hk, he, hw⟩ := hrel
   by_cases hlt : k < l.length
   ·obtain ⟨g, o, es, hA, hS, hg, -, hre, hc⟩ := HG.out.at_ hlt
    have hd : l.drop k = l[k] :: l.drop (k + 1) := List.drop_eq_getElem_cons hlt
    obtain ⟨x, hx⟩ : ∃ x, x = l[k] := ⟨_, rfl⟩
    rw [← hx] at hre hd
    obtain rfl : es = [.int .i64 x] := hre
    rw [← hw] at hc hg
    have q : wr.cell? ⟨g, o + k * 1, none⟩ = some (.int .i64 x) := hc.at_ 0 rfl
    rw [Nat.mul_one] at q
    have He : Hid ((decide (x = n) || hasI (l.drop (k + 1)) n) = hasI l n) := by show _ = _; rw [← he.out, hd]; rfl
    have Hw := Lib.hid hw
    subst hA
    clear hc hd hx he hS hw
    by_cases hn : x = n
    ·have Hp3 : Hid (p = ⟨#[103, 111, 110, 101]⟩) := by show _ = _; rw [Hp2.out, ← He.out]; simp [hn]
     subst hn
     clear He
     go_wp2_with fail
     go_ret
     exact ⟨by rw [Hp3.out]; rfl, Hw.out ▸ hG1⟩
    ·have hne : (x == n) = false := by simpa using hn
     have He2 : Hid (hasI (l.drop (k + 1)) n = hasI l n) := by show _ = _; rw [← He.out]; simp [hn]
     clear He hn
     go_wp2_with fail
     go_roundw
     case rel => exact ⟨k + 1, by go_num, by go_light; omega, He2, Hw.out⟩
     case measure => go_light; simp [intOf]; omega
   ·have Hp3 : Hid (p = ⟨#[]⟩) := by
     show _ = _
     rw [Hp2.out, ← he.out, List.drop_eq_nil_of_le (by omega)]
     rfl
    have Hw := Lib.hid hw
    clear he hw
    go_wp2_with fail
    go_ret
    exact ⟨by rw [Hp3.out]; rfl, Hw.out ▸ hG1⟩
theorem toldI_any (S : Nat → Prop) (vb : Value) (b : BookD) (name : ByteArray) (n : Int) (w : World) (hb : RSl 5 96 RType S w [vb] b) :
  Calls Tryz.prog 18 #[.agg #[vb], .string name, .int .u8 105, .int .i64 n] w (Ret w (.string (toldI (typeOf b name) n))) := by
 obtain ⟨p, hp⟩ : ∃ p, p = toldI (typeOf b name) n := ⟨_, rfl⟩
 rw [← hp]
 have Hp := Lib.hid hp
 clear hp
 obtain ⟨A, cap, rfl, -, -⟩ := hb.form
 obtain ⟨x1, x2⟩ := boxes1 w [.slice A b.length cap] 24
 have f1 := Lib.hid (fun W (h : Below w.heap.size w W) => typeOf_any (Old w) _ b name W ((RSl.fair RType.fair).below ((RSl.fair RType.fair).old hb) h))
 clear hb
 have m0 := x1.cell 0
 have ml := x1.lt
 go_enter Tryz.func18, Tryz.ntmps18
 go_wp2_with fail
 refine (f1.out _ x2).mono ?_
 rintro e w1 ⟨cs, rfl, hr, hb1⟩
 have hG := below_via x2 hb1 x2.size
 obtain ⟨t, ht⟩ : ∃ t, t = (findT b name).getD .zero := ⟨_, rfl⟩
 obtain ⟨is, his⟩ : ∃ is, is = (findT b name).isSome := ⟨_, rfl⟩
 have Ht := Lib.hid ht
 have His := Lib.hid his
 rw [← ht] at hr
 rw [← his]
 obtain ⟨A1, k1, A2, k2, A3, k3, rfl, -, -, -⟩ := hr.parts
 have z1 := Box.new w1 38 [.string t.name, .bool t.enum, .slice A1 t.fields.length k1, .slice A2 t.gone.length k2, .slice A3 t.items.length k3]
 have hG1 := hG.alloc hG.size (.cells [.string t.name, .bool t.enum, .slice A1 t.fields.length k1, .slice A2 t.gone.length k2, .slice A3 t.items.length k3].toArray 38)
 have hr1 := RType.fair.below (RType.fair.below hr hb1) ((Below.here w1).alloc (Nat.le_refl _) (.cells [.string t.name, .bool t.enum, .slice A1 t.fields.length k1, .slice A2 t.gone.length k2, .slice A3 t.items.length k3].toArray 38))
 clear m0 ml x1 x2 f1 hb1 hr hG ht his
 go_upto_region 2 with fail
 generalize w1.heap.size = T at z1 ⊢
 generalize (World.alloc w1 _) = V at z1 hG1 hr1 ⊢
 have ht2 : typeOf b name = t := by rw [typeOf, ← Ht.out]
 rw [ht2] at Hp
 have lT := z1.lt
 cases is with
 | false =>
  have hn : t = .zero := by
   have h := His.out.symm
   rw [Option.isSome_eq_false_iff, Option.isNone_iff_eq_none] at h
   rw [Ht.out, h]; rfl
  clear z1 hr1 ht2
  go_wp2_with fail
  go_ret
  exact ⟨by rw [Hp.out, hn]; rfl, hG1⟩
 | true =>
  have HG := Lib.hid hr1.three.2.2
  obtain ⟨q0, q1, q2, q3, q4⟩ := z1.five
  obtain ⟨l, hl⟩ : ∃ l, l = t.items := ⟨_, rfl⟩
  have Hp2 : Hid (p = ((l.find? fun x => decide (x.n = n)).map (·.name)).getD ⟨#[]⟩) := by
   show _ = _
   rw [Hp.out, toldI, itemOf, hl]
   cases List.find? (fun x => decide (x.n = n)) t.items <;> rfl
  rw [← hl] at HG q4
  clear z1 hr1 ht2 His Ht hl Hp q0 q1 q2 q3
  obtain ⟨_, _, -, -, hlb⟩ := HG.out.form
  go_wp2_with fail
  clear q4 lT
  go_loopw [73] (fun i wr => ∃ k : Nat, i = .int .i64 k ∧ k ≤ l.length ∧ Hid ((l.drop k).find? (fun x => decide (x.n = n)) = l.find? (fun x => decide (x.n = n))) ∧ Below V.heap.size V wr) (fun i _ => l.length - (intOf i).toNat)
  case atStart => exact ⟨0, rfl, Nat.zero_le _, rfl, Below.here V⟩
  case round =>
   obtain ⟨k, rfl, hk, he, hw⟩ := hrel
   have hG2 := below_via hG1 hw hG1.size
   by_cases hlt : k < l.length
   ·obtain ⟨g, o, es, hA, hS, hg, -, hre, hc⟩ := ((RSl.fair RItem.fair).below HG.out hw).at_ hlt
    have hd : l.drop k = l[k] :: l.drop (k + 1) := List.drop_eq_getElem_cons hlt
    obtain ⟨x, hx⟩ : ∃ x, x = l[k] := ⟨_, rfl⟩
    rw [← hx] at hre hd
    obtain rfl : es = itemCells x := hre
    have He := Lib.hid (hd ▸ he.out)
    obtain ⟨xn, xi⟩ := x
    have q0 : wr.cell? ⟨g, o + k * 2, none⟩ = some (.string xn) := hc.at_ 0 rfl
    have q1 : wr.cell? ⟨g, o + k * 2 + 1, none⟩ = some (.int .i64 xi) := hc.at_ 1 rfl
    have hG3 := hG2.alloc hG2.size (.cells #[.string xn, .int .i64 xi] 62)
    have hw3 := hw.alloc hw.size (.cells #[.string xn, .int .i64 xi] 62)
    subst hA
    clear hc hd hx he hS hw hG2
    by_cases hn : xi = n
    ·have Hp3 : Hid (p = xn) := by show _ = _; rw [Hp2.out, ← He.out]; simp [hn]
     subst hn
     clear He
     go_wp2_with fail
     go_ret
     exact ⟨by rw [Hp3.out]; rfl, hG3⟩
    ·have hne : (xi == n) = false := by simpa using hn
     have He2 : Hid ((l.drop (k + 1)).find? (fun x => decide (x.n = n)) = l.find? (fun x => decide (x.n = n))) := by show _ = _; rw [← He.out]; simp [hn]
     clear He hn
     go_wp2_with fail
     go_roundw
     case rel => exact ⟨k + 1, by go_num, by go_light; omega, He2, hw3⟩
     case measure => go_light; simp [intOf]; omega
   ·have Hp3 : Hid (p = ⟨#[]⟩) := by
     show _ = _
     rw [Hp2.out, ← he.out, List.drop_eq_nil_of_le (by omega)]
     rfl
    clear he hw
    go_wp2_with fail
    go_ret
    exact ⟨by rw [Hp3.out]; rfl, hG2⟩
end Go.Proofs.YtihdnjnhhhafkaaGreatDoor
namespace Go.Proofs.YtihdnjnhhhafkaaGreatDoor
open Go.RowKit
def toldA (c : Int) (b : BookD) (name : ByteArray) (n : Int) : ByteArray := if c = 116 then toldT b name else if c = 102 then toldF (typeOf b name) n else if c = 103 then toldG (typeOf b name) n else toldI (typeOf b name) n
def IsKey (c : Int) : Prop := c = 116 ∨ c = 102 ∨ c = 103 ∨ c = 105
def FieldsOk (b : BookD) : Prop := ∀ name n f, fieldOf (typeOf b name) n = some f → FOk f
theorem told_any (S : Nat → Prop) (vb : Value) (b : BookD) (name : ByteArray) (c n : Int) (w : World) (hb : RSl 5 96 RType S w [vb] b) (hc : IsKey c) (hok : FieldsOk b) :
  Calls Tryz.prog 18 #[.agg #[vb], .string name, .int .u8 c, .int .i64 n] w (Ret w (.string (toldA c b name n))) := by
 rcases hc with rfl | rfl | rfl | rfl
 ·exact toldT_any S vb b name n w hb
 ·exact toldF_any S vb b name n w hb (hok name n)
 ·exact toldG_any S vb b name n w hb
 ·exact toldI_any S vb b name n w hb
def ptrF (ga gb k : Nat) : Value := .pointer (if k = 1 then some ⟨ga, 0, none⟩ else if k = 2 then some ⟨gb, 0, none⟩ else none)
theorem from_any (S : Nat → Prop) (gx gn ga gb : Nat) (vx va vb : Value) (x a b : BookD) (name : ByteArray) (c n : Int) (w : World) (bx : Box w gx 24 [vx]) (bn : Box w gn 9 [.string name]) (ba : Box w ga 24 [va]) (bb : Box w gb 24 [vb])
  (rx : RSl 5 96 RType S w [vx] x) (ra : RSl 5 96 RType S w [va] a) (rb : RSl 5 96 RType S w [vb] b) (hc : IsKey c) (ox : FieldsOk x) (oa : FieldsOk a) (ob : FieldsOk b) :
  Calls Tryz.prog 17 #[.int .u8 c, .int .i64 n, .pointer (some ⟨gx, 0, none⟩), .pointer (some ⟨gn, 0, none⟩), .pointer (some ⟨ga, 0, none⟩), .pointer (some ⟨gb, 0, none⟩)] w
   (Ret w (ptrF ga gb (pickF (toldA c x name n) (toldA c a name n) (toldA c b name n)))) := by
 obtain ⟨A1, c1, rfl, -, -⟩ := rx.form
 obtain ⟨A2, c2, rfl, -, -⟩ := ra.form
 obtain ⟨A3, c3, rfl, -, -⟩ := rb.form
 have t1 := Lib.hid (fun W (h : Below w.heap.size w W) => told_any S _ x name c n W ((RSl.fair RType.fair).below rx h) hc ox)
 have t2 := Lib.hid (fun W (h : Below w.heap.size w W) => told_any S _ a name c n W ((RSl.fair RType.fair).below ra h) hc oa)
 have t3 := Lib.hid (fun W (h : Below w.heap.size w W) => told_any S _ b name c n W ((RSl.fair RType.fair).below rb h) hc ob)
 obtain ⟨p, hp⟩ : ∃ p, p = ptrF ga gb (pickF (toldA c x name n) (toldA c a name n) (toldA c b name n)) := ⟨_, rfl⟩
 rw [← hp]
 obtain ⟨s1, hs1⟩ : ∃ s, s = toldA c x name n := ⟨_, rfl⟩
 obtain ⟨s2, hs2⟩ : ∃ s, s = toldA c a name n := ⟨_, rfl⟩
 obtain ⟨s3, hs3⟩ : ∃ s, s = toldA c b name n := ⟨_, rfl⟩
 rw [← hs1, ← hs2, ← hs3] at hp
 rw [← hs1] at t1
 rw [← hs2] at t2
 rw [← hs3] at t3
 have Hp := Lib.hid hp
 have HS := Lib.hid (fun W (h : Below w.heap.size w W) => show (fun W' => World.cell? W' ⟨gx, 0, none⟩ = some (.slice A1 x.length c1) ∧ World.cell? W' ⟨gn, 0, none⟩ = some (.string name) ∧ World.cell? W' ⟨ga, 0, none⟩ = some (.slice A2 a.length c2) ∧ World.cell? W' ⟨gb, 0, none⟩ = some (.slice A3 b.length c3)) W from ⟨(bx.below h bx.lt).cell 0, (bn.below h bn.lt).cell 0, (ba.below h ba.lt).cell 0, (bb.below h bb.lt).cell 0⟩)
 clear hp hs1 hs2 hs3 rx ra rb bx bn ba bb ox oa ob hc
 go_enter Tryz.func17, Tryz.ntmps17
 go_upto_region 1 with fail
 have hB := below_drew (Below.here w)
 have hS := HS.out _ hB
 refine lateP_start (fun W' => World.cell? W' ⟨gx, 0, none⟩ = some (.slice A1 x.length c1) ∧ World.cell? W' ⟨gn, 0, none⟩ = some (.string name) ∧ World.cell? W' ⟨ga, 0, none⟩ = some (.slice A2 a.length c2) ∧ World.cell? W' ⟨gb, 0, none⟩ = some (.slice A3 b.length c3)) (fun _ => true) (by kernel_rfl) ?_
 generalize w.drew = Wd at hS hB ⊢
 refine tkP 0 hS ?_
 try simp only [pu]
 refine tkP 1 hS ?_
 try simp only [pu]
 refine ppP 2 ?_
 try simp only [pu]
 refine ppP 3 ?_
 try simp only [pu]
 refine tkP 5 hS ?_
 try simp only [pu]
 refine tkP 6 hS ?_
 try simp only [pu]
 refine ppP 7 ?_
 try simp only [pu]
 refine ppP 8 ?_
 try simp only [pu]
 refine tkP 10 hS ?_
 try simp only [pu]
 refine tkP 11 hS ?_
 try simp only [pu]
 refine ppP 12 ?_
 try simp only [pu]
 refine ppP 13 ?_
 try simp only [pu]
 refine lateP_one (i := 4) rfl (by kernel_rfl) (fun K hK => ?_)
 go_simp
 refine (t1.out _ hB).mono ?_
 rintro e w1 ⟨rfl, hb1⟩
 have hB1 := below_via hB hb1 hB.size
 replace hS := HS.out _ hB1
 refine hK.out _ _ (fun _ _ => hS) ?_
 clear hK K
 try simp only [pu]
 refine lateP_one (i := 9) rfl (by kernel_rfl) (fun K hK => ?_)
 go_simp
 refine (t2.out _ hB1).mono ?_
 rintro e w2 ⟨rfl, hb2⟩
 have hB2 := below_via hB1 hb2 hB1.size
 replace hS := HS.out _ hB2
 refine hK.out _ _ (fun _ _ => hS) ?_
 clear hK K
 try simp only [pu]
 refine lateP_one (i := 14) rfl (by kernel_rfl) (fun K hK => ?_)
 go_simp
 refine (t3.out _ hB2).mono ?_
 rintro e w3 ⟨rfl, hb3⟩
 have hB3 := below_via hB2 hb3 hB2.size
 replace hS := HS.out _ hB3
 refine hK.out _ _ (fun _ _ => hS) ?_
 clear hK K
 try simp only [pu]
 refine ppP 15 ?_
 try simp only [pu]
 refine ppP 16 ?_
 try simp only [pu]
 refine ppP 17 ?_
 try simp only [pu]
 refine lateP_done (by kernel_rfl) ?_ _
 clear hS HS hB hb1 hB1 hb2 hB2 hb3 t1 t2 t3
 obtain ⟨b1, hb1⟩ : ∃ b, b = decide (s2 = s3) := ⟨_, rfl⟩
 obtain ⟨b2, hb2⟩ : ∃ b, b = decide (s3 = s1) := ⟨_, rfl⟩
 obtain ⟨b3, hb3⟩ : ∃ b, b = decide (s2 = s1) := ⟨_, rfl⟩
 have e1 : (s2.toList == s3.toList) = b1 := (ba_eq _ _).trans hb1.symm
 have e2 : (s3.toList == s1.toList) = b2 := (ba_eq _ _).trans hb2.symm
 have e3 : (s2.toList == s1.toList) = b3 := (ba_eq _ _).trans hb3.symm
 have Hp2 : Hid (p = .pointer (if b1 = true ∨ b2 = true then some ⟨ga, 0, none⟩ else if b3 = true then some ⟨gb, 0, none⟩ else none)) := by
  show _ = _
  rw [Hp.out, hb1, hb2, hb3]
  unfold ptrF pickF
  simp only [decide_eq_true_eq]
  by_cases q1 : s2 = s3 ∨ s3 = s1
  ·rw [if_pos q1, if_pos q1]; rfl
  ·rw [if_neg q1, if_neg q1]
   by_cases q3 : s2 = s1
   ·rw [if_pos q3, if_pos q3]; rfl
   ·rw [if_neg q3, if_neg q3]; rfl
 clear hb1 hb2 hb3 Hp
 cases b1 <;> cases b2 <;> cases b3 <;> (go_wp2_with fail; go_ret; exact ⟨by rw [Hp2.out]; rfl, hB3⟩)
end Go.Proofs.YtihdnjnhhhafkaaGreatDoor
