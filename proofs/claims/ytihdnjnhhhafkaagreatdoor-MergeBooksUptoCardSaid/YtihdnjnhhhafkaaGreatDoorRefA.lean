/- Several texts of walks and laws in one file; what each proves stands at its head. -/
import Derived.Test.YtihdnjnhhhafkaaGreatDoorBase
import Derived.Lib.IndexMore
import Derived.Lib.SlTrimSet
import Derived.Test.YtihdnjnhhhafkaaGreatDoorRefShelf
import Derived.Shelf.Strings.SlTrimAscii
import Derived.Test.YtihdnjnhhhafkaaGreatDoorBooks
import Derived.Deep.Light
set_option linter.all false
set_option maxRecDepth 100000
set_option maxHeartbeats 8000000
namespace Go.Proofs.YtihdnjnhhhafkaaGreatDoor
def rowW : List (List UInt8) → List UInt8
 | [] => []
 | n :: ns => n ++ 32 :: rowW ns
theorem rowW_snoc : ∀ (ns : List (List UInt8)) (x : List UInt8), rowW (ns ++ [x]) = rowW ns ++ (x ++ [32])
 | [], x => by simp [rowW]
 | n :: ns, x => by rw [List.cons_append, rowW, rowW_snoc ns x, rowW]; simp
theorem contains_iff (s sub : List UInt8) : Lib.contains s sub = true ↔ ∃ i, i ≤ s.length ∧ sub.isPrefixOf (s.drop i) = true := by
 unfold Lib.contains
 rw [decide_eq_true_eq]
 constructor
 ·intro h
  rcases Lib.index_spec s sub with ⟨h1, _⟩ | ⟨i, h1, h2, h3, _⟩
  ·omega
  ·exact ⟨i, h2, h3⟩
 ·rintro ⟨i, hi, hp⟩
  rcases Lib.index_spec s sub with ⟨_, h2⟩ | ⟨j, h1, _⟩
  ·have := h2 i hi
   unfold Lib.occAt at this
   rw [hp] at this; cases this
  ·omega
theorem split_blank : ∀ (x n : List UInt8) (r t : List UInt8), (∀ c ∈ x, c ≠ 32) → (∀ c ∈ n, c ≠ 32) → x ++ 32 :: r = n ++ 32 :: t → x = n
 | [], [], _, _, _, _, _ => rfl
 | [], c :: n, _, _, _, hn, h => by
  simp only [List.nil_append, List.cons_append, List.cons.injEq] at h
  exact absurd h.1.symm (hn c (by simp))
 | c :: x, [], _, _, hx, _, h => by
  simp only [List.nil_append, List.cons_append, List.cons.injEq] at h
  exact absurd h.1 (hx c (by simp))
 | c :: x, d :: n, r, t, hx, hn, h => by
  simp only [List.cons_append, List.cons.injEq] at h
  rw [h.1, split_blank x n r t (fun c hc => hx c (by simp [hc])) (fun c hc => hn c (by simp [hc])) h.2]
theorem prefix_skip {x r : List UInt8} : ∀ (n : List UInt8) (i : Nat), (∀ c ∈ n, c ≠ 32) → (32 :: x).isPrefixOf ((n ++ 32 :: r).drop i) = true → ∃ j, (32 :: x).isPrefixOf ((32 :: r).drop j) = true ∧ j ≤ (32 :: r).length
 | [], i, _, h => by
  rcases Nat.lt_or_ge i (32 :: r).length with hi | hi
  ·exact ⟨i, h, by omega⟩
  ·simp only [List.nil_append] at h
   rw [List.drop_eq_nil_of_le (by simpa using hi)] at h; simp at h
 | c :: n, 0, hn, h => by
  simp only [List.drop_zero, List.cons_append, List.isPrefixOf, Bool.and_eq_true, beq_iff_eq] at h
  exact absurd h.1.symm (hn c (by simp))
 | c :: n, i + 1, hn, h => prefix_skip n i (fun c hc => hn c (by simp [hc])) (by simpa using h)
theorem row_has {x : List UInt8} (hx : ∀ c ∈ x, c ≠ 32) : ∀ (ns : List (List UInt8)), (∀ n ∈ ns, ∀ c ∈ n, c ≠ 32) → ((∃ i, (32 :: (x ++ [32])).isPrefixOf ((32 :: rowW ns).drop i) = true) ↔ x ∈ ns)
 | [], _ => by
  constructor
  ·rintro ⟨i, h⟩
   exfalso
   rw [rowW] at h
   match i, h with
   | 0, h => cases x <;> simp [List.isPrefixOf] at h
   | 1, h => simp [List.isPrefixOf] at h
   | i + 2, h => simp [List.isPrefixOf] at h
  ·intro h; cases h
 | n :: ns, hn => by
  have hn0 := hn n (by simp)
  have ih := row_has hx ns (fun m hm => hn m (by simp [hm]))
  rw [rowW]
  constructor
  ·rintro ⟨i, h⟩
   match i, h with
   | 0, h =>
    simp only [List.drop_zero, List.isPrefixOf, Bool.and_eq_true] at h
    obtain ⟨t, ht⟩ := List.isPrefixOf_iff_prefix.1 h.2
    have := split_blank x n t (rowW ns) hx hn0 (by rw [← ht]; simp)
    rw [this]; simp
   | i + 1, h =>
    obtain ⟨j, hj, _⟩ := prefix_skip n i hn0 (by simpa using h)
    exact List.mem_cons_of_mem _ (ih.1 ⟨j, hj⟩)
  ·intro h
   rcases List.mem_cons.1 h with rfl | h
   ·refine ⟨0, ?_⟩
    rw [List.drop_zero]
    exact List.isPrefixOf_iff_prefix.2 ⟨rowW ns, by simp⟩
   ·obtain ⟨j, hj⟩ := ih.2 h
    refine ⟨n.length + 1 + j, ?_⟩
    have e : (32 :: (n ++ 32 :: rowW ns)).drop (n.length + 1 + j) = (32 :: rowW ns).drop j := by
     rw [show (32 :: (n ++ 32 :: rowW ns)) = (32 :: n) ++ (32 :: rowW ns) by simp, show n.length + 1 + j = (32 :: n).length + j by simp, List.drop_append]
     simp
    rw [e]; exact hj
theorem contains_row {x : List UInt8} {ns : List (List UInt8)} (hx : ∀ c ∈ x, c ≠ 32) (hn : ∀ n ∈ ns, ∀ c ∈ n, c ≠ 32) : Lib.contains (32 :: rowW ns) (32 :: (x ++ [32])) = decide (x ∈ ns) := by
 rw [Bool.eq_iff_iff, contains_iff, decide_eq_true_eq, ← row_has hx ns hn]
 constructor
 ·rintro ⟨i, _, h⟩; exact ⟨i, h⟩
 ·rintro ⟨i, h⟩
  rcases Nat.lt_or_ge (32 :: rowW ns).length i with hi | hi
  ·rw [List.drop_eq_nil_of_le (by omega)] at h; simp [List.isPrefixOf] at h
  ·exact ⟨i, hi, h⟩
theorem takeWhile_all {α : Type} (p : α → Bool) : ∀ (l : List α), ∀ c ∈ l.takeWhile p, p c = true
 | [], c, h => by cases h
 | a :: l, c, h => by
  rw [List.takeWhile_cons] at h
  by_cases ha : p a = true
  ·rw [if_pos ha] at h
   rcases List.mem_cons.1 h with rfl | h
   ·exact ha
   ·exact takeWhile_all p l c h
  ·rw [if_neg ha] at h; cases h
theorem trim_nil (l cs : List UInt8) : Lib.trimS l cs = [] ↔ ∀ c ∈ l, cs.contains c = true := by
 have h1 : ∀ l : List UInt8, l.dropWhile (cs.contains ·) = [] ↔ ∀ c ∈ l, cs.contains c = true := by
  intro l
  induction l with
  | nil => simp
  | cons a l ih =>
   rw [List.dropWhile_cons]
   by_cases ha : cs.contains a = true
   ·rw [if_pos ha, ih]; simp at ha; simp [ha]
   ·rw [if_neg ha]; simp at ha; simp [ha]
 unfold Lib.trimS Lib.trimLeftS Lib.trimRightS
 rw [h1]
 constructor
 ·intro h c hc
  by_cases hm : c ∈ (l.reverse.dropWhile (cs.contains ·)).reverse
  ·exact h c hm
  ·have hp := List.takeWhile_append_dropWhile (p := (cs.contains ·)) (l := l.reverse)
   have hc' : c ∈ l.reverse := by simpa using hc
   rw [← hp, List.mem_append] at hc'
   rcases hc' with hc' | hc'
   ·exact takeWhile_all _ _ c hc'
   ·exact absurd (by simpa using hc') hm
 ·intro h c hc
  refine h c ?_
  have : c ∈ l.reverse := (List.dropWhile_suffix _).subset (by simpa using hc)
  simpa using this
end Go.Proofs.YtihdnjnhhhafkaaGreatDoor
namespace Go.Proofs.YtihdnjnhhhafkaaGreatDoor
def lettersL : List UInt8 := [97, 98, 99, 100, 101, 102, 103, 104, 105, 106, 107, 108, 109, 110, 111, 112, 113, 114, 115, 116, 117, 118, 119, 120, 121, 122]
theorem letters_has (c : UInt8) : lettersL.contains c = decide (97 ≤ c.toNat ∧ c.toNat ≤ 122) := by
 have h : ∀ n : Fin 256, lettersL.contains (UInt8.ofNat n.val) = decide (97 ≤ n.val ∧ n.val ≤ 122) := by decide +kernel
 have := h ⟨c.toNat, c.toNat_lt⟩
 simpa using this
def rowWords : List UInt8 := 32 :: rowW (wordsL.map bytes)
theorem named_letters {s : ByteArray} (h : namedF s = true) : ∀ c ∈ bytes s, 97 ≤ c.toNat ∧ c.toNat ≤ 122 := by
 unfold namedF at h
 simp only [Bool.and_eq_true, List.all_eq_true, decide_eq_true_eq] at h
 exact h.1.1
theorem named_blank {s : ByteArray} (h : namedF s = true) : ∀ c ∈ bytes s, c ≠ 32 := by
 intro c hc h32
 have := named_letters h c hc
 subst h32
 exact absurd this.1 (by decide)
theorem named_size {s : ByteArray} (h : namedF s = true) : 1 ≤ s.size ∧ s.size ≤ 12 := by
 unfold namedF at h
 simp only [Bool.and_eq_true, decide_eq_true_eq] at h
 exact h.1.2
theorem words_blank : ∀ n ∈ wordsL.map bytes, ∀ c ∈ n, c ≠ 32 := by decide
theorem bytes_mem {s : ByteArray} {l : List ByteArray} : bytes s ∈ l.map bytes ↔ s ∈ l := by
 constructor
 ·intro h
  obtain ⟨t, ht, he⟩ := List.mem_map.1 h
  have : t = s := (ba_of he.symm).trans (ba_of rfl).symm ▸ rfl
  exact this ▸ ht
 ·exact fun h => List.mem_map_of_mem h
theorem hasS_mem {l : List ByteArray} {x : ByteArray} : hasS l x = true ↔ x ∈ l := by
 unfold hasS
 simp
theorem ref_named (s : ByteArray) (h0 : s.size ≠ 0) (h12 : s.size ≤ 12) (ht : Lib.trimS (bytes s) lettersL = []) : namedF s = !Lib.contains rowWords (32 :: (bytes s ++ [32])) := by
 have hl : ∀ c ∈ bytes s, 97 ≤ c.toNat ∧ c.toNat ≤ 122 := fun c hc => by
  have := (trim_nil _ _).1 ht c hc
  rw [letters_has] at this
  exact of_decide_eq_true this
 have hb : ∀ c ∈ bytes s, c ≠ 32 := fun c hc h32 => by
  have := hl c hc
  subst h32
  exact absurd this.1 (by decide)
 unfold rowWords
 rw [contains_row hb words_blank]
 unfold namedF
 have ha : (bytes s).all (fun c => decide (97 ≤ c.toNat ∧ c.toNat ≤ 122)) = true := List.all_eq_true.2 fun c hc => decide_eq_true (hl c hc)
 rw [ha, decide_eq_true (show 1 ≤ s.size ∧ s.size ≤ 12 by omega)]
 simp only [Bool.true_and]
 congr 1
 rw [Bool.eq_iff_iff, hasS_mem, decide_eq_true_eq, bytes_mem]
theorem ref_unnamed (s : ByteArray) (h : s.size = 0 ∨ 12 < s.size ∨ Lib.trimS (bytes s) lettersL ≠ []) : namedF s = false := by
 cases hn : namedF s
 ·rfl
 ·exfalso
  have h1 := named_size hn
  rcases h with h | h | h
  ·omega
  ·omega
  ·exact h ((trim_nil _ _).2 fun c hc => by rw [letters_has]; exact decide_eq_true (named_letters hn c hc))
def usedS (l : List ByteArray) : ByteArray := ⟨(32 :: rowW (l.map bytes)).toArray⟩
theorem used_nil : usedS [] = ⟨#[32]⟩ := rfl
theorem bytes_ext {a b : ByteArray} (h : bytes a = bytes b) : a = b := (ba_of h).trans (ba_of rfl).symm
theorem used_step (l : List ByteArray) (x : ByteArray) : usedS l ++ (x ++ ⟨#[32]⟩) = usedS (l ++ [x]) := by
 refine bytes_ext ?_
 rw [bytes_append, bytes_append]
 show (32 :: rowW (l.map bytes)) ++ (bytes x ++ [32]) = 32 :: rowW ((l ++ [x]).map bytes)
 rw [List.map_append, List.map_cons, List.map_nil, rowW_snoc]; rfl
theorem rowW_len : ∀ (l : List ByteArray), (∀ x ∈ l, x.size ≤ 12) → (rowW (l.map bytes)).length ≤ 13 * l.length
 | [], _ => by simp [rowW]
 | x :: l, h => by
  have h1 : (bytes x).length ≤ 12 := h x (by simp)
  have h2 := rowW_len l (fun y hy => h y (by simp [hy]))
  simp only [List.map_cons, rowW, List.length_append, List.length_cons]; omega
theorem used_size {l : List ByteArray} (h : ∀ x ∈ l, x.size ≤ 12) : (usedS l).size ≤ 13 * l.length + 1 := by
 have := rowW_len l h
 show (32 :: rowW (l.map bytes)).toArray.size ≤ _
 simp only [List.size_toArray, List.length_cons]; omega
theorem used_has {l : List ByteArray} {x : ByteArray} (hx : namedF x = true) (hl : ∀ n ∈ l, namedF n = true) : Lib.contains (bytes (usedS l)) (32 :: (bytes x ++ [32])) = hasS l x := by
 show Lib.contains (32 :: rowW (l.map bytes)) _ = _
 rw [contains_row (named_blank hx) (fun n hn => by
  obtain ⟨m, hm, rfl⟩ := List.mem_map.1 hn
  exact named_blank (hl m hm)), Bool.eq_iff_iff, hasS_mem, decide_eq_true_eq, bytes_mem]
end Go.Proofs.YtihdnjnhhhafkaaGreatDoor
namespace Go.Proofs.YtihdnjnhhhafkaaGreatDoor
open Go.RowKit
def MaxL (w : World) : Prop := ∃ m, w.cell? ⟨1, 0, none⟩ = some (.int .i64 m)
theorem MaxL.below {w w' : World} (h : MaxL w) (hb : Below w.heap.size w w') : MaxL w' := by
 obtain ⟨m, hm⟩ := h
 exact ⟨m, by rw [World.cell?_of_block (w := w) (hb.block _ (World.block_lt_of_cell? w _ hm))]; exact hm⟩
theorem trim_any (s : ByteArray) (w : World) (hs : s.size ≤ 9223372036854775807) : Calls Tryz.prog 53 #[.string s, .string ⟨#[97, 98, 99, 100, 101, 102, 103, 104, 105, 106, 107, 108, 109, 110, 111, 112, 113, 114, 115, 116, 117, 118, 119, 120, 121, 122]⟩] w (fun e w' => e = .returned (.string ⟨(Lib.trimS (bytes s) lettersL).toArray⟩) ∧ Below w.heap.size w w') :=
 Any.strings_Trim_laid Tryz.lays160 (by kernel_rfl) s ⟨#[97, 98, 99, 100, 101, 102, 103, 104, 105, 106, 107, 108, 109, 110, 111, 112, 113, 114, 115, 116, 117, 118, 119, 120, 121, 122]⟩ w hs (by decide) (ascii_of_all (by decide))
theorem words_any (s : ByteArray) (w : World) (hM : MaxL w) : Calls Tryz.prog 54 #[.string ⟨#[32, 98, 111, 111, 108, 32, 101, 110, 117, 109, 32, 103, 111, 110, 101, 32, 105, 110, 116, 32, 109, 97, 110, 121, 32, 109, 97, 121, 98, 101, 32, 109, 101, 115, 115, 97, 103, 101, 32, 111, 110, 101, 32, 116, 101, 120, 116, 32]⟩, .string (⟨#[32]⟩ ++ s ++ ⟨#[32]⟩)] w (Pur w (.bool (Lib.contains rowWords (32 :: (bytes s ++ [32]))))) := by
 obtain ⟨m, hm⟩ := hM
 have h := Tryz.strings_Contains ⟨#[32, 98, 111, 111, 108, 32, 101, 110, 117, 109, 32, 103, 111, 110, 101, 32, 105, 110, 116, 32, 109, 97, 110, 121, 32, 109, 97, 121, 98, 101, 32, 109, 101, 115, 115, 97, 103, 101, 32, 111, 110, 101, 32, 116, 101, 120, 116, 32]⟩ (⟨#[32]⟩ ++ s ++ ⟨#[32]⟩) m w (by decide) hm
 have e2 : (⟨#[32]⟩ ++ s ++ ⟨#[32]⟩ : ByteArray).data.toList = 32 :: (bytes s ++ [32]) := by
  show bytes (⟨#[32]⟩ ++ s ++ ⟨#[32]⟩) = _
  rw [bytes_append, bytes_append]; rfl
 rw [e2] at h
 exact h
theorem isName_any (s : ByteArray) (w : World) (hs : s.size ≤ 9223372036854775807) (hM : MaxL w) : Calls Tryz.prog 39 #[.string s] w (Ret w (.bool (namedF s))) := by
 obtain ⟨r, hr⟩ : ∃ r, r = namedF s := ⟨_, rfl⟩
 rw [← hr]
 have Hr := Lib.hid hr
 have HM := Lib.hid hM
 have HT := Lib.hid (trim_any s w hs)
 clear hr hM
 go_enter Tryz.func39, Tryz.ntmps39
 by_cases h0 : s.size = 0
 ·have hr0 : r = false := by rw [Hr.out]; exact ref_unnamed s (.inl h0)
  subst hr0
  have h00 : s = ⟨#[]⟩ := by
   have : bytes s = [] := List.eq_nil_of_length_eq_zero h0
   exact ba_of this
  subst h00
  go_wp2_with fail
  go_ret
  exact ⟨rfl, Below.refl _ _⟩
 ·have hne : (s.toList == (⟨#[]⟩ : ByteArray).toList) = false := by
   rw [ba_eq, decide_eq_false_iff_not]
   rintro rfl; exact h0 rfl
  have hemp : s.toList.isEmpty = false := by
   rw [ByteArray.toList_eq]
   cases hl : s.data.toList with
   | nil => exact absurd (by have := congrArg List.length hl; simpa using this) h0
   | cons => rfl
  by_cases h12 : 12 < s.size
  ·have hr0 : r = false := by rw [Hr.out]; exact ref_unnamed s (.inr (.inl h12))
   subst hr0
   have e12 : decide ((s.size : Int) > 12) = true := by simp; omega
   go_wp2_with fail
   all_goals first
    | (go_ret; exact ⟨rfl, Below.refl _ _⟩)
    | (exfalso; omega)
  ·have e12 : decide ((s.size : Int) > 12) = false := by simp; omega
   go_wp2_with fail
   refine HT.out.mono ?_
   rintro e w1 ⟨rfl, hb1⟩
   by_cases ht : Lib.trimS (bytes s) lettersL = []
   ·have hr0 : r = !Lib.contains rowWords (32 :: (bytes s ++ [32])) := by rw [Hr.out]; exact ref_named s h0 (by omega) ht
    have HC := Lib.hid (words_any s w1 (HM.out.below hb1))
    rw [ht]
    obtain ⟨c, hc⟩ : ∃ c, c = Lib.contains rowWords (32 :: (bytes s ++ [32])) := ⟨_, rfl⟩
    rw [← hc] at hr0 HC
    subst hr0
    clear hc
    go_wp2_with fail
    refine HC.out.mono ?_
    rintro e w2 ⟨rfl, rfl⟩
    go_wp2_with fail
    go_ret
    exact ⟨rfl, hb1⟩
   ·have hr0 : r = false := by rw [Hr.out]; exact ref_unnamed s (.inr (.inr ht))
    subst hr0
    have hne2 : ((⟨(Lib.trimS (bytes s) lettersL).toArray⟩ : ByteArray).toList == (⟨#[]⟩ : ByteArray).toList) = false := by
     rw [ba_eq, decide_eq_false_iff_not]
     intro h
     apply ht
     have := congrArg bytes h
     simpa [bytes_of] using this
    have hemp2 : (⟨(Lib.trimS (bytes s) lettersL).toArray⟩ : ByteArray).toList.isEmpty = false := by
     rw [ByteArray.toList_eq]
     cases hl : Lib.trimS (bytes s) lettersL with
     | nil => exact absurd hl ht
     | cons => rfl
    generalize (⟨(Lib.trimS (bytes s) lettersL).toArray⟩ : ByteArray) = T at *
    go_wp2_with fail
    go_ret
    exact ⟨rfl, hb1⟩
end Go.Proofs.YtihdnjnhhhafkaaGreatDoor
namespace Go.Proofs.YtihdnjnhhhafkaaGreatDoor
open Go.RowKit
theorem typeOf_results {W : World} {a : Act} {g : Nat} {n : ByteArray} {en fd : Bool} {v1 v2 v3 : Value} (hb : Box W g 38 [.string n, .bool en, v1, v2, v3]) (h4 : a.tmps.getD 4 undef = .pointer (some ⟨g, 0, none⟩)) (h5 : a.tmps.getD 5 undef = .bool fd) :
  (results Tryz.f19 a.tmps).run Tryz.prog W = .ok (.tuple #[.agg #[.string n, .bool en, v1, v2, v3], .bool fd]) W := by
 obtain ⟨c0, c1, c2, c3, c4⟩ := hb.five
 simp only [Array.getD_eq_getD_getElem?] at h4 h5
 simp [results, Tryz.results19, go_sem, h4, h5, c0, c1, c2, c3, c4]
theorem fieldIn_results {W : World} {a : Act} {g : Nat} {f : FieldD} {fd : Bool} (hb : Box W g 43 (fieldCells f)) (h4 : a.tmps.getD 4 undef = .pointer (some ⟨g, 0, none⟩)) (h5 : a.tmps.getD 5 undef = .bool fd) :
  (results Tryz.f20 a.tmps).run Tryz.prog W = .ok (.tuple #[.agg (fieldCells f).toArray, .bool fd]) W := by
 unfold fieldCells at hb
 obtain ⟨c0, c1, c2, c3, c4⟩ := hb.five
 simp only [Array.getD_eq_getD_getElem?] at h4 h5
 simp [results, Tryz.results20, go_sem, h4, h5, c0, c1, c2, c3, c4, fieldCells]
theorem typeOf_any (S : Nat → Prop) (vb : Value) (b : BookD) (name : ByteArray) (w : World) (hb : RSl 5 96 RType S w [vb] b) :
  Calls Tryz.prog 19 #[.agg #[vb], .string name] w (FindPost S w (findT b name)) := by
 obtain ⟨A, cap, rfl, hlc, hlb⟩ := hb.form
 have HB := Lib.hid hb
 obtain ⟨x1, x2, x3⟩ := boxes2 w [.slice A b.length cap] [.string ⟨#[]⟩, .bool false, .slice none 0 0, .slice none 0 0, .slice none 0 0] 24 38
 obtain ⟨r, hr⟩ : ∃ r, r = findT b name := ⟨_, rfl⟩
 rw [← hr]
 have Hr := Lib.hid hr
 clear hb hr
 go_enter Tryz.func19, Tryz.ntmps19
 go_wp2_with fail
 go_loopw [10] (fun i wr => ∃ k : Nat, i = .int .i64 k ∧ k ≤ b.length ∧ Box wr w.heap.size 24 [.slice A b.length cap] ∧ Box wr (w.heap.size + 1) 38 [.string ⟨#[]⟩, .bool false, .slice none 0 0, .slice none 0 0, .slice none 0 0] ∧
   Hid (findT (b.drop k) name = r) ∧ Below w.heap.size w wr) (fun i _ => b.length - (intOf i).toNat)
 case atStart => exact ⟨0, rfl, by omega, x1, x2, (show _ = _ by rw [Hr.out, List.drop_zero]), x3⟩
 case round =>
  clear x1 x2 x3
  obtain ⟨k, rfl, hk, hb1, hbx, he, hb⟩ := hrel
  have m0 : wr.cell? ⟨w.heap.size, 0, none⟩ = some (.slice A b.length cap) := hb1.cell 0
  have ml := hb1.lt
  by_cases hlt : k < b.length
  ·obtain ⟨g, o, es, hA, hS, hg, hes, hr, hc0⟩ := HB.out.at_ hlt
   have hc := hc0.keep (Keep.of_below hb) hS
   have hgw : g < wr.heap.size := Nat.lt_of_lt_of_le hg hb.size
   have hd : b.drop k = b[k] :: b.drop (k + 1) := List.drop_eq_getElem_cons hlt
   obtain ⟨t, hte⟩ : ∃ t, t = b[k] := ⟨_, rfl⟩
   rw [← hte] at hr hd
   rw [hd] at he
   rw [hA] at m0
   obtain ⟨A1, k1, A2, k2, A3, k3, rfl, -, -, -⟩ := hr.parts
   have q0 : wr.cell? ⟨g, o + k * 5, none⟩ = some (.string t.name) := hc.at_ 0 rfl
   have q1 : wr.cell? ⟨g, o + k * 5 + 1, none⟩ = some (.bool t.enum) := hc.at_ 1 rfl
   have q2 : wr.cell? ⟨g, o + k * 5 + 2, none⟩ = some (.slice A1 t.fields.length k1) := hc.at_ 2 rfl
   have q3 : wr.cell? ⟨g, o + k * 5 + 3, none⟩ = some (.slice A2 t.gone.length k2) := hc.at_ 3 rfl
   have q4 : wr.cell? ⟨g, o + k * 5 + 4, none⟩ = some (.slice A3 t.items.length k3) := hc.at_ 4 rfl
   have HR := Lib.hid hr
   clear hr hc hc0 hd hte hes hA
   by_cases hn : t.name = name
   ·subst hn
    have hft : r = some t := by rw [← he.out]; simp [findT]
    subst hft
    have hb5 := hbx.setCells [.string t.name, .bool t.enum, .slice A1 t.fields.length k1, .slice A2 t.gone.length k2, .slice A3 t.items.length k3] rfl
    have hw5 := below_setCells (g := w.heap.size + 1) (Nat.le_succ _) [.string t.name, .bool t.enum, .slice A1 t.fields.length k1, .slice A2 t.gone.length k2, .slice A3 t.items.length k3] 0 _ hb
    obtain ⟨r0, r1, r2, r3, r4⟩ := hbx.five
    have g0 := hbx.frozen 0
    have g1 := hbx.frozen 1
    have g2 := hbx.frozen 2
    have g3 := hbx.frozen 3
    have g4 := hbx.frozen 4
    have hlr := hbx.lt
    have H5 := Lib.hid hb5
    have HW := Lib.hid hw5
    clear he hb5 hw5 hbx
    go_wp2_with fail
    change bodyPost _ _ _ _ _ (setCells wr (w.heap.size + 1) 0 [.string t.name, .bool t.enum, .slice A1 t.fields.length k1, .slice A2 t.gone.length k2, .slice A3 t.items.length k3])
    exact bodyPost_ret (typeOf_results H5.out rfl rfl) rfl ⟨_, rfl, HR.out, HW.out⟩
   ·have hne : (t.name.toList == name.toList) = false := by rw [ba_eq]; simpa using hn
    have He := Lib.hid (show findT (b.drop (k + 1)) name = r by rw [← he.out]; simp [findT, hn])
    clear he
    go_wp2_with fail
    go_roundw
    case rel => exact ⟨k + 1, by go_num, by omega, hb1, hbx, He, hb⟩
    case measure => simp [intOf]; omega
  ·have hr0 : r = none := by rw [← he.out, List.drop_eq_nil_of_le (by omega)]; rfl
   subst hr0
   have hb5 := hbx.setCells [.string ⟨#[]⟩, .bool false, .slice none 0 0, .slice none 0 0, .slice none 0 0] rfl
   have hw5 := below_setCells (g := w.heap.size + 1) (Nat.le_succ _) [.string ⟨#[]⟩, .bool false, .slice none 0 0, .slice none 0 0, .slice none 0 0] 0 _ hb
   obtain ⟨r0, r1, r2, r3, r4⟩ := hbx.five
   have g0 := hbx.frozen 0
   have g1 := hbx.frozen 1
   have g2 := hbx.frozen 2
   have g3 := hbx.frozen 3
   have g4 := hbx.frozen 4
   have hlr := hbx.lt
   have H5 := Lib.hid hb5
   have HW := Lib.hid hw5
   clear he hb5 hw5 hbx
   go_wp2_with fail
   change bodyPost _ _ _ _ _ (setCells wr (w.heap.size + 1) 0 [.string ⟨#[]⟩, .bool false, .slice none 0 0, .slice none 0 0, .slice none 0 0])
   exact bodyPost_ret (typeOf_results H5.out rfl rfl) rfl ⟨_, rfl, RType.zero, HW.out⟩
theorem fieldIn_any (S : Nat → Prop) (cs : List Value) (t : TypeD) (id : Int) (w : World) (ht : RType S w cs t) :
  Calls Tryz.prog 20 #[.agg cs.toArray, .int .i64 id] w (FieldPost w (fieldOf t id)) := by
 obtain ⟨A1, k1, A2, k2, A3, k3, rfl, hf, -, -⟩ := ht.parts
 obtain ⟨A', cap', h', hlc, hlb⟩ := hf.form
 have HB := Lib.hid hf
 obtain ⟨x1, x2, x3⟩ := boxes2 w [.string t.name, .bool t.enum, .slice A1 t.fields.length k1, .slice A2 t.gone.length k2, .slice A3 t.items.length k3] [.int .i64 0, .string ⟨#[]⟩, .string ⟨#[]⟩, .int .i64 0, .int .i64 0] 38 43
 obtain ⟨r, hr⟩ : ∃ r, r = fieldOf t id := ⟨_, rfl⟩
 rw [← hr]
 have Hr := Lib.hid hr
 clear hf h' ht hr
 go_enter Tryz.func20, Tryz.ntmps20
 go_wp2_with fail
 go_loopw [10] (fun i wr => ∃ k : Nat, i = .int .i64 k ∧ k ≤ t.fields.length ∧ Box wr w.heap.size 38 [.string t.name, .bool t.enum, .slice A1 t.fields.length k1, .slice A2 t.gone.length k2, .slice A3 t.items.length k3] ∧ Box wr (w.heap.size + 1) 43 [.int .i64 0, .string ⟨#[]⟩, .string ⟨#[]⟩, .int .i64 0, .int .i64 0] ∧
   Hid ((t.fields.drop k).find? (fun f => decide (f.id = id)) = r) ∧ Below w.heap.size w wr) (fun i _ => t.fields.length - (intOf i).toNat)
 case atStart => exact ⟨0, rfl, by omega, x1, x2, (show _ = _ by rw [Hr.out, List.drop_zero]; rfl), x3⟩
 case round =>
  clear x1 x2 x3
  obtain ⟨k, rfl, hk, hb1, hbx, he, hb⟩ := hrel
  have m2 : wr.cell? ⟨w.heap.size, 2, none⟩ = some (.slice A1 t.fields.length k1) := hb1.cell 2
  have ml := hb1.lt
  by_cases hlt : k < t.fields.length
  ·obtain ⟨g, o, es, hA, hS, hg, hes, hr, hc0⟩ := HB.out.at_ hlt
   have hc := hc0.keep (Keep.of_below hb) hS
   have hgw : g < wr.heap.size := Nat.lt_of_lt_of_le hg hb.size
   have hd : t.fields.drop k = t.fields[k] :: t.fields.drop (k + 1) := List.drop_eq_getElem_cons hlt
   obtain ⟨f, hte⟩ : ∃ f, f = t.fields[k] := ⟨_, rfl⟩
   rw [← hte] at hr hd
   rw [hd] at he
   rw [hA] at m2
   have hr' : es = fieldCells f := hr
   subst hr'
   have q0 : wr.cell? ⟨g, o + k * 5, none⟩ = some (.int .i64 f.id) := hc.at_ 0 rfl
   have q1 : wr.cell? ⟨g, o + k * 5 + 1, none⟩ = some (.string f.name) := hc.at_ 1 rfl
   have q2 : wr.cell? ⟨g, o + k * 5 + 2, none⟩ = some (.string f.type) := hc.at_ 2 rfl
   have q3 : wr.cell? ⟨g, o + k * 5 + 3, none⟩ = some (.int .i64 f.kind) := hc.at_ 3 rfl
   have q4 : wr.cell? ⟨g, o + k * 5 + 4, none⟩ = some (.int .i64 f.rule) := hc.at_ 4 rfl
   clear hr hc hc0 hd hte hes hA
   by_cases hn : f.id = id
   ·subst hn
    have hft : r = some f := by rw [← he.out]; simp
    subst hft
    have hb5 := hbx.setCells [.int .i64 f.id, .string f.name, .string f.type, .int .i64 f.kind, .int .i64 f.rule] rfl
    have hw5 := below_setCells (g := w.heap.size + 1) (Nat.le_succ _) [.int .i64 f.id, .string f.name, .string f.type, .int .i64 f.kind, .int .i64 f.rule] 0 _ hb
    obtain ⟨r0, r1, r2, r3, r4⟩ := hbx.five
    have g0 := hbx.frozen 0
    have g1 := hbx.frozen 1
    have g2 := hbx.frozen 2
    have g3 := hbx.frozen 3
    have g4 := hbx.frozen 4
    have hlr := hbx.lt
    have H5 := Lib.hid hb5
    have HW := Lib.hid hw5
    clear he hb5 hw5 hbx
    go_wp2_with fail
    change bodyPost _ _ _ _ _ (setCells wr (w.heap.size + 1) 0 [.int .i64 f.id, .string f.name, .string f.type, .int .i64 f.kind, .int .i64 f.rule])
    exact bodyPost_ret (fieldIn_results (f := f) H5.out rfl rfl) rfl ⟨rfl, HW.out⟩
   ·have He := Lib.hid (show (t.fields.drop (k + 1)).find? (fun f => decide (f.id = id)) = r by rw [← he.out]; simp [hn])
    clear he
    go_wp2_with fail
    go_roundw
    case rel => exact ⟨k + 1, by go_num, by omega, hb1, hbx, He, hb⟩
    case measure => simp [intOf]; omega
  ·have hr0 : r = none := by rw [← he.out, List.drop_eq_nil_of_le (by omega)]; rfl
   subst hr0
   have hb5 := hbx.setCells [.int .i64 0, .string ⟨#[]⟩, .string ⟨#[]⟩, .int .i64 0, .int .i64 0] rfl
   have hw5 := below_setCells (g := w.heap.size + 1) (Nat.le_succ _) [.int .i64 0, .string ⟨#[]⟩, .string ⟨#[]⟩, .int .i64 0, .int .i64 0] 0 _ hb
   obtain ⟨r0, r1, r2, r3, r4⟩ := hbx.five
   have g0 := hbx.frozen 0
   have g1 := hbx.frozen 1
   have g2 := hbx.frozen 2
   have g3 := hbx.frozen 3
   have g4 := hbx.frozen 4
   have hlr := hbx.lt
   have H5 := Lib.hid hb5
   have HW := Lib.hid hw5
   clear he hb5 hw5 hbx
   go_wp2_with fail
   change bodyPost _ _ _ _ _ (setCells wr (w.heap.size + 1) 0 [.int .i64 0, .string ⟨#[]⟩, .string ⟨#[]⟩, .int .i64 0, .int .i64 0])
   exact bodyPost_ret (fieldIn_results (f := .zero) H5.out rfl rfl) rfl ⟨rfl, HW.out⟩
end Go.Proofs.YtihdnjnhhhafkaaGreatDoor
