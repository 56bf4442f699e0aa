/- Several texts of walks and laws in one file; what each proves stands at its head. -/
import Derived.Test.YtihdnjnhhhafkaaGreatDoorBase
import Derived.Lib.SlicesCompact
set_option linter.all false
namespace Go.Proofs.YtihdnjnhhhafkaaGreatDoor
open Go.RowKit
structure FlawD where
 type : ByteArray
 id : Int
 why : Int
 deriving DecidableEq
def flawCells (f : FlawD) : List Value := [.string f.type, .int .i64 f.id, .int .i64 f.why]
def RFlaw : Rel FlawD := RFlat flawCells
theorem RFlaw.fair : Fair RFlaw := RFlat.fair _
end Go.Proofs.YtihdnjnhhhafkaaGreatDoor
namespace Go.Proofs.YtihdnjnhhhafkaaGreatDoor
structure StateD where
 there : Bool
 enum : Bool
 field : FieldD
 item : ByteArray
 deriving DecidableEq
def noS : StateD := ⟨false, false, .zero, ⟨#[]⟩⟩
def threeF (was a b : StateD) : StateD × Bool := if a = b ∨ b = was then (a, true) else if a = was then (b, true) else (was, false)
def kindS (b : BookD) (name : ByteArray) : StateD := ⟨(findT b name).isSome, (typeOf b name).enum, .zero, ⟨#[]⟩⟩
def fieldS (t : TypeD) (id : Int) : StateD := ⟨(fieldOf t id).isSome, false, (fieldOf t id).getD .zero, ⟨#[]⟩⟩
def goneS (t : TypeD) (id : Int) : StateD := ⟨hasI t.gone id, false, .zero, ⟨#[]⟩⟩
def itemOf (t : TypeD) (n : Int) : Option ItemD := t.items.find? fun x => decide (x.n = n)
def itemS (t : TypeD) (n : Int) : StateD := match itemOf t n with
 | some x => ⟨true, false, .zero, x.name⟩
 | none => noS
def addS (out : List ByteArray) (x : ByteArray) : List ByteArray := if hasS out x then out else out ++ [x]
def onceS (l : List ByteArray) : List ByteArray := l.foldl addS []
def sortN (l : List ByteArray) : List ByteArray := ((l.map bytes).mergeSort fun x y => decide (x ≤ y)).map fun b => ⟨b.toArray⟩
def sortI (l : List Int) : List Int := l.mergeSort fun x y => decide (x ≤ y)
def namesF (l : List BookD) : List ByteArray := sortN (onceS (l.flatMap fun b => b.map (·.name)))
def numbersF (l : List TypeD) : List Int := Lib.compact (sortI (l.flatMap fun t => t.items.map (·.n)))
def idsL : List Int := (List.range 30).map fun (k : Nat) => (k : Int) + 1
section
variable (x y z : TypeD) (name : ByteArray)
def fT (id : Int) : StateD × Bool := threeF (fieldS x id) (fieldS y id) (fieldS z id)
def gT (id : Int) : StateD × Bool := threeF (goneS x id) (goneS y id) (goneS z id)
def iT (n : Int) : StateD × Bool := threeF (itemS x n) (itemS y n) (itemS z n)
def badId (id : Int) : Bool := !(fT x y z id).2 || ((fT x y z id).1.there && (gT x y z id).1.there)
def fieldsAt (id : Int) : List FieldD := if badId x y z id = true then [] else if (fT x y z id).1.there = true then [(fT x y z id).1.field] else []
def goneAt (id : Int) : List Int := if badId x y z id = true then [] else if (fT x y z id).1.there = true then [] else if (gT x y z id).1.there = true then [id] else []
def badAt (id : Int) : List FlawD := if badId x y z id = true then [⟨name, id, 0⟩] else []
def itemsAt (n : Int) : List ItemD := if (iT x y z n).2 = false then [] else if (iT x y z n).1.there = true then [⟨(iT x y z n).1.item, n⟩] else []
def badIt (n : Int) : List FlawD := if (iT x y z n).2 = false then [⟨name, n, 0⟩] else []
def typesT : TypeD := ⟨name, false, idsL.flatMap (fieldsAt x y z), idsL.flatMap (goneAt x y z), (numbersF [x, y, z]).flatMap (itemsAt x y z)⟩
def typesL : List FlawD := idsL.flatMap (badAt x y z name) ++ (numbersF [x, y, z]).flatMap (badIt x y z name)
end
def clashF (k : StateD) (t : TypeD) : Bool :=
 (!k.there && (decide (0 < t.fields.length + t.gone.length) || decide (0 < t.items.length))) || (k.there && k.enum && decide (0 < t.fields.length + t.gone.length)) || (k.there && !k.enum && decide (0 < t.items.length))
section
variable (was a b : BookD) (name : ByteArray)
def kT : StateD × Bool := threeF (kindS was name) (kindS a name) (kindS b name)
def tyT : TypeD := { typesT (typeOf was name) (typeOf a name) (typeOf b name) name with enum := (kT was a b name).1.enum }
def tyL : List FlawD := typesL (typeOf was name) (typeOf a name) (typeOf b name) name
def nameM : List TypeD × List FlawD :=
 if (kT was a b name).2 = false then ([], [⟨name, 0, 0⟩])
 else if 0 < (tyL was a b name).length then ([], tyL was a b name)
 else if clashF (kT was a b name).1 (tyT was a b name) = true then ([], [⟨name, 0, 0⟩])
 else if (kT was a b name).1.there = true then ([tyT was a b name], []) else ([], [])
end
def outM (was a b : BookD) : BookD := (namesF [was, a, b]).flatMap fun n => (nameM was a b n).1
def badM (was a b : BookD) : List FlawD := (namesF [was, a, b]).flatMap fun n => (nameM was a b n).2
def booksM (was a b : BookD) : BookD × List FlawD × Int :=
 if goodF was ≠ 0 ∨ goodF a ≠ 0 ∨ goodF b ≠ 0 then ([], [], 1)
 else if 0 < (badM was a b).length then ([], badM was a b, 9)
 else if goodF (outM was a b) ≠ 0 then ([], [], goodF (outM was a b))
 else (outM was a b, [], 0)
end Go.Proofs.YtihdnjnhhhafkaaGreatDoor
namespace Go.Proofs.YtihdnjnhhhafkaaGreatDoor
theorem eq_of_lt {α : Type} {r : α → α → Prop} (ha : ∀ a b, r a b → ¬ r b a) {l1 l2 : List α} (h1 : l1.Pairwise r) (h2 : l2.Pairwise r) (hm : ∀ x, x ∈ l1 ↔ x ∈ l2) : l1 = l2 := by
 have nd : ∀ l : List α, l.Pairwise r → l.Nodup := fun l h => h.imp (fun {a b} hab e => by subst e; exact ha _ _ hab hab)
 exact List.Perm.eq_of_pairwise (le := r) (fun a b _ _ h h' => absurd h' (ha a b h)) h1 h2 ((List.perm_ext_iff_of_nodup (nd _ h1) (nd _ h2)).2 hm)
theorem find_key {α κ : Type} [DecidableEq κ] {key : α → κ} : ∀ {l : List α} {t : α}, t ∈ l → (∀ u ∈ l, key u = key t → u = t) → l.find? (fun u => decide (key u = key t)) = some t
 | [], _, h, _ => by cases h
 | a :: l, t, h, hu => by
  rw [List.find?_cons]
  by_cases e : key a = key t
  ·have := hu a (by simp) e
   subst this; simp
  ·simp only [e, decide_false]
   refine find_key ?_ fun u h' => hu u (by simp [h'])
   rcases List.mem_cons.1 h with rfl | h
   ·exact absurd rfl e
   ·exact h
theorem find_flat {β κ : Type} [DecidableEq κ] {key : β → κ} {F : κ → List β} {N : List κ} (hF : ∀ n ∈ N, ∀ u ∈ F n, key u = n) {n : κ} (hn : n ∈ N) (hl : (F n).length ≤ 1) :
  (N.flatMap F).find? (fun u => decide (key u = n)) = (F n).head? := by
 have hmem : ∀ u ∈ N.flatMap F, key u = n → u ∈ F n := by
  intro u hu e
  obtain ⟨m, hm, hum⟩ := List.mem_flatMap.1 hu
  have := hF m hm u hum
  rw [e] at this; subst this; exact hum
 cases hFn : F n with
 | nil =>
  rw [List.head?_nil, List.find?_eq_none]
  intro u hu he
  have := hmem u hu (by simpa using he)
  rw [hFn] at this; cases this
 | cons t rest =>
  rw [hFn] at hl
  have hr : rest = [] := List.eq_nil_of_length_eq_zero (by rw [List.length_cons] at hl; omega)
  subst hr
  have ht : t ∈ F n := by rw [hFn]; simp
  have hk := hF n hn t ht
  have := find_key (key := key) (l := N.flatMap F) (t := t) (List.mem_flatMap.2 ⟨n, hn, ht⟩) (fun u hu e => by
   have := hmem u hu (e.trans hk)
   rw [hFn] at this; simpa using this)
  rw [hk] at this
  rw [this]; rfl
theorem find_flat_none {β κ : Type} [DecidableEq κ] {key : β → κ} {F : κ → List β} {N : List κ} (hF : ∀ n ∈ N, ∀ u ∈ F n, key u = n) {n : κ} (hn : n ∉ N) :
  (N.flatMap F).find? (fun u => decide (key u = n)) = none := by
 rw [List.find?_eq_none]
 intro u hu he
 obtain ⟨m, hm, hum⟩ := List.mem_flatMap.1 hu
 have := hF m hm u hum
 have he' : key u = n := by simpa using he
 rw [he'] at this; subst this; exact hn hm
theorem less_lt : ∀ (x y : List UInt8), Op.bytesLess x y = decide (x < y)
 | [], [] => by simp [Op.bytesLess]
 | _ :: _, [] => by simp [Op.bytesLess]
 | [], _ :: _ => by simp [Op.bytesLess]
 | a :: x, b :: y => by
  rw [Op.bytesLess, less_lt x y]
  simp only [List.cons_lt_cons_iff]
  by_cases h1 : a < b <;> by_cases h2 : a = b <;> by_cases h3 : x < y <;> simp [h1, h2, h3]
def ltN (a b : ByteArray) : Prop := bytes a < bytes b
theorem ltS_iff (a b : ByteArray) : ltS a b ↔ ltN a b := by
 unfold ltS ltN
 rw [less_lt, ByteArray.toList_eq, ByteArray.toList_eq, decide_eq_true_iff]
theorem ltN_asymm (a b : ByteArray) (h : ltN a b) : ¬ ltN b a := fun h' => List.lt_irrefl _ (List.lt_trans h h')
theorem ltN_trans (a b c : ByteArray) (h : ltN a b) (h' : ltN b c) : ltN a c := List.lt_trans h h'
theorem bytes_inj {a b : ByteArray} (h : bytes a = bytes b) : a = b := (ba_of h).trans (ba_of rfl).symm
theorem hasS_iff {l : List ByteArray} {x : ByteArray} : hasS l x = true ↔ x ∈ l := by unfold hasS; simp
theorem once_fold : ∀ (l out : List ByteArray), out.Nodup → (l.foldl addS out).Nodup ∧ ∀ x, x ∈ l.foldl addS out ↔ x ∈ out ∨ x ∈ l
 | [], out, h => ⟨h, by simp⟩
 | y :: l, out, h => by
  have hy : (addS out y).Nodup ∧ ∀ x, x ∈ addS out y ↔ x ∈ out ∨ x = y := by
   unfold addS
   by_cases hh : hasS out y = true
   ·rw [if_pos hh]
    refine ⟨h, fun x => ⟨.inl, ?_⟩⟩
    rintro (h | rfl)
    ·exact h
    ·exact hasS_iff.1 hh
   ·rw [if_neg hh]
    refine ⟨?_, by simp⟩
    rw [List.nodup_append]
    refine ⟨h, by simp, ?_⟩
    intro a ha b hb e
    have : b = y := by simpa using hb
    subst this; subst e
    exact hh (hasS_iff.2 ha)
  rw [List.foldl_cons]
  have := once_fold l (addS out y) hy.1
  refine ⟨this.1, fun x => ?_⟩
  rw [this.2, hy.2, List.mem_cons, or_assoc]
theorem once_nodup (l : List ByteArray) : (onceS l).Nodup := (once_fold l [] .nil).1
theorem once_mem {l : List ByteArray} {x : ByteArray} : x ∈ onceS l ↔ x ∈ l := by
 have := (once_fold l [] .nil).2 x
 simpa [onceS] using this
theorem sortN_mem {l : List ByteArray} {x : ByteArray} : x ∈ sortN l ↔ x ∈ l := by
 unfold sortN
 constructor
 ·intro h
  obtain ⟨b, hb, rfl⟩ := List.mem_map.1 h
  rw [(List.mergeSort_perm _ _).mem_iff] at hb
  obtain ⟨y, hy, rfl⟩ := List.mem_map.1 hb
  exact hy
 ·intro h
  refine List.mem_map.2 ⟨bytes x, ?_, rfl⟩
  rw [(List.mergeSort_perm _ _).mem_iff]
  exact List.mem_map.2 ⟨x, h, rfl⟩
theorem sortN_sorted {l : List ByteArray} (h : l.Nodup) : (sortN l).Pairwise ltN := by
 unfold sortN
 rw [List.pairwise_map]
 have h1 := List.pairwise_mergeSort (le := fun x y : List UInt8 => decide (x ≤ y)) (fun a b c h1 h2 => by
  simp only [decide_eq_true_eq] at h1 h2 ⊢; exact List.le_trans h1 h2) (fun a b => by
  simp only [Bool.or_eq_true, decide_eq_true_eq]; exact List.le_total a b) (l.map bytes)
 have h2 : ((l.map bytes).mergeSort fun x y => decide (x ≤ y)).Nodup := by
  rw [(List.mergeSort_perm _ _).nodup_iff]
  refine List.pairwise_map.2 (h.imp fun hne e => hne (bytes_inj e))
 refine (h1.and h2).imp ?_
 rintro a b ⟨hab, hne⟩
 simp only [decide_eq_true_eq] at hab
 show a < b
 by_cases hba : b ≤ a
 ·exact absurd (List.le_antisymm hab hba) hne
 ·exact List.not_le.1 hba
theorem names_mem {l : List BookD} {n : ByteArray} : n ∈ namesF l ↔ ∃ b ∈ l, ∃ t ∈ b, t.name = n := by
 unfold namesF
 rw [sortN_mem, once_mem, List.mem_flatMap]
 simp only [List.mem_map]
theorem names_sorted (l : List BookD) : (namesF l).Pairwise ltN := sortN_sorted (once_nodup _)
theorem compact_sorted {zs : List Int} (h : zs.Pairwise (· ≤ ·)) : (Lib.compact zs).Pairwise (· < ·) ∧ ∀ x, x ∈ Lib.compact zs ↔ x ∈ zs := by
 have hle : ∀ i j, i ≤ j → j < zs.length → zs.toArray[i]! ≤ zs.toArray[j]! := by
  intro i j hij hj
  have e : ∀ k (hk : k < zs.length), zs.toArray[k]! = zs[k] := fun k hk => by
   rw [getElem!_pos zs.toArray k (by simpa using hk)]; simp
  rw [e i (by omega), e j hj]
  rcases Nat.lt_or_ge i j with h' | h'
  ·exact List.pairwise_iff_getElem.1 h i j (by omega) hj h'
  ·have : i = j := by omega
   subst this; exact Int.le_refl _
 refine ⟨?_, fun x => ?_⟩
 ·unfold Lib.compact Lib.compactUpTo
  rw [List.pairwise_map]
  have hr : (List.range zs.length).Pairwise (· < ·) := List.pairwise_lt_range
  refine (hr.filter (Lib.keeps zs.toArray)).imp_of_mem ?_
  intro i j _ hj hij
  have hj' := List.mem_filter.1 hj
  have hjl : j < zs.length := List.mem_range.1 hj'.1
  have hk : j = 0 ∨ zs.toArray[j]! ≠ zs.toArray[j - 1]! := by simpa [Lib.keeps] using hj'.2
  have h1 := hle i (j - 1) (by omega) (by omega)
  have h2 := hle (j - 1) j (by omega) hjl
  rcases hk with hk | hk
  ·omega
  ·omega
 ·unfold Lib.compact Lib.compactUpTo
  have e : ∀ k (hk : k < zs.length), zs.toArray[k]! = zs[k] := fun k hk => by
   rw [getElem!_pos zs.toArray k (by simpa using hk)]; simp
  simp only [List.mem_map, List.mem_filter, List.mem_range]
  constructor
  ·rintro ⟨j, ⟨hj, _⟩, rfl⟩
   rw [e j hj]; exact List.getElem_mem hj
  ·intro hx
   obtain ⟨j, hj, rfl⟩ := List.getElem_of_mem hx
   have : ∀ j, j < zs.length → ∃ i, (i < zs.length ∧ Lib.keeps zs.toArray i = true) ∧ zs.toArray[i]! = zs.toArray[j]! := by
    intro j
    induction j with
    | zero => intro h0; exact ⟨0, ⟨h0, by simp [Lib.keeps]⟩, rfl⟩
    | succ j ih =>
     intro hj
     by_cases hk : Lib.keeps zs.toArray (j + 1) = true
     ·exact ⟨j + 1, ⟨hj, hk⟩, rfl⟩
     ·obtain ⟨i, hi, he⟩ := ih (by omega)
      refine ⟨i, hi, he.trans ?_⟩
      simp [Lib.keeps] at hk
      simpa using hk.symm
   obtain ⟨i, hi, he⟩ := this j hj
   exact ⟨i, hi, by rw [he, e j hj]⟩
theorem sortI_sorted (l : List Int) : (sortI l).Pairwise (· ≤ ·) := by
 have h1 := List.pairwise_mergeSort (le := fun x y : Int => decide (x ≤ y)) (fun a b c h1 h2 => by
  simp only [decide_eq_true_eq] at h1 h2 ⊢; omega) (fun a b => by
  simp only [Bool.or_eq_true, decide_eq_true_eq]; omega) l
 exact h1.imp fun h => by simpa using h
theorem sortI_mem {l : List Int} {x : Int} : x ∈ sortI l ↔ x ∈ l := (List.mergeSort_perm _ _).mem_iff
theorem numbers_sorted (l : List TypeD) : (numbersF l).Pairwise (· < ·) := (compact_sorted (sortI_sorted _)).1
theorem numbers_mem {l : List TypeD} {n : Int} : n ∈ numbersF l ↔ ∃ t ∈ l, ∃ x ∈ t.items, x.n = n := by
 unfold numbersF
 rw [(compact_sorted (sortI_sorted _)).2, sortI_mem, List.mem_flatMap]
 simp only [List.mem_map]
theorem ids_mem {i : Int} : i ∈ idsL ↔ 1 ≤ i ∧ i ≤ 30 := by
 unfold idsL
 simp only [List.mem_map, List.mem_range]
 constructor
 ·rintro ⟨k, hk, rfl⟩; omega
 ·intro h; exact ⟨(i - 1).toNat, by omega, by omega⟩
theorem ids_sorted : idsL.Pairwise (· < ·) := by
 unfold idsL
 rw [List.pairwise_map]
 exact List.pairwise_lt_range.imp fun h => by omega
theorem three_comm (w a b : StateD) : threeF w a b = threeF w b a := by
 unfold threeF
 by_cases h1 : a = b
 ·subst h1; rfl
 ·have h1' : ¬ b = a := fun h => h1 h.symm
  by_cases h2 : b = w
  ·subst h2
   simp [h1, h1']
  ·by_cases h3 : a = w
   ·subst h3
    simp [h1, h1']
   ·simp [h1, h1', h2, h3]
theorem three_left (w a : StateD) : threeF w a w = (a, true) := by unfold threeF; rw [if_pos (.inr rfl)]
theorem three_both (w a : StateD) : threeF w a a = (a, true) := by unfold threeF; rw [if_pos (.inl rfl)]
theorem three_right (w b : StateD) : threeF w w b = (b, true) := by rw [three_comm]; exact three_left w b
theorem three_one (w a b : StateD) : (threeF w a b).1 = w ∨ (threeF w a b).1 = a ∨ (threeF w a b).1 = b := by
 unfold threeF
 split
 ·exact .inr (.inl rfl)
 ·split
  ·exact .inr (.inr rfl)
  ·exact .inl rfl
theorem numbers_comm (x y z : TypeD) : numbersF [x, y, z] = numbersF [x, z, y] :=
 eq_of_lt (r := fun a b : Int => a < b) (fun a b h h' => by omega) (numbers_sorted _) (numbers_sorted _) (fun n => by
  rw [numbers_mem, numbers_mem]
  simp only [List.mem_cons, List.not_mem_nil, or_false, exists_eq_or_imp, exists_eq_left]
  rw [or_comm (b := ∃ x_1, x_1 ∈ z.items ∧ x_1.n = n)])
theorem names_comm (x y z : BookD) : namesF [x, y, z] = namesF [x, z, y] :=
 eq_of_lt (r := ltN) ltN_asymm (names_sorted _) (names_sorted _) (fun n => by
  rw [names_mem, names_mem]
  simp only [List.mem_cons, List.not_mem_nil, or_false, exists_eq_or_imp, exists_eq_left]
  rw [or_comm (b := ∃ x_1, x_1 ∈ z ∧ x_1.name = n)])
theorem fT_comm (x y z : TypeD) : fT x y z = fT x z y := funext fun _ => three_comm _ _ _
theorem gT_comm (x y z : TypeD) : gT x y z = gT x z y := funext fun _ => three_comm _ _ _
theorem iT_comm (x y z : TypeD) : iT x y z = iT x z y := funext fun _ => three_comm _ _ _
theorem badId_comm (x y z : TypeD) : badId x y z = badId x z y := by unfold badId; rw [fT_comm, gT_comm]
theorem typesT_comm (x y z : TypeD) (n : ByteArray) : typesT x y z n = typesT x z y n := by
 have e1 : fieldsAt x y z = fieldsAt x z y := by unfold fieldsAt; rw [badId_comm, fT_comm]
 have e2 : goneAt x y z = goneAt x z y := by unfold goneAt; rw [badId_comm, fT_comm, gT_comm]
 have e3 : itemsAt x y z = itemsAt x z y := by unfold itemsAt; rw [iT_comm]
 unfold typesT
 rw [e1, e2, e3, numbers_comm]
theorem typesL_comm (x y z : TypeD) (n : ByteArray) : typesL x y z n = typesL x z y n := by
 have e1 : badAt x y z n = badAt x z y n := by unfold badAt; rw [badId_comm]
 have e2 : badIt x y z n = badIt x z y n := by unfold badIt; rw [iT_comm]
 unfold typesL
 rw [e1, e2, numbers_comm]
theorem nameM_comm (w a b : BookD) : nameM w a b = nameM w b a := by
 funext n
 have e1 : kT w a b n = kT w b a n := three_comm _ _ _
 have e2 : tyT w a b n = tyT w b a n := by unfold tyT; rw [e1, typesT_comm]
 have e3 : tyL w a b n = tyL w b a n := typesL_comm _ _ _ _
 unfold nameM
 rw [e1, e2, e3]
theorem books_comm (w a b : BookD) : booksM w a b = booksM w b a := by
 have e1 : outM w a b = outM w b a := by unfold outM; rw [nameM_comm, names_comm]
 have e2 : badM w a b = badM w b a := by unfold badM; rw [nameM_comm, names_comm]
 have e3 : (goodF w ≠ 0 ∨ goodF a ≠ 0 ∨ goodF b ≠ 0) = (goodF w ≠ 0 ∨ goodF b ≠ 0 ∨ goodF a ≠ 0) := by
  rw [or_comm (a := goodF a ≠ 0)]
 unfold booksM
 rw [e1, e2]
 simp only [e3]
theorem good_code {b : BookD} : goodF b = 0 ∨ goodF b = 1 ∨ goodF b = 7 := by
 unfold goodF
 split
 ·simp
 ·split
  ·simp
  ·split <;> simp
theorem books_flaws (w a b : BookD) : ((booksM w a b).2.2 = 9) ↔ 0 < (booksM w a b).2.1.length := by
 unfold booksM
 split
 ·simp
 ·split
  ·rename_i h; simpa using h
  ·split
   ·have := good_code (b := outM w a b)
    simp; omega
   ·simp
end Go.Proofs.YtihdnjnhhhafkaaGreatDoor
namespace Go.Proofs.YtihdnjnhhhafkaaGreatDoor
structure GoodT (t : TypeD) : Prop where
 fs : t.fields.Pairwise (fun f g => f.id < g.id)
 fi : ∀ f ∈ t.fields, 1 ≤ f.id ∧ f.id ≤ 30
 gs : t.gone.Pairwise (· < ·)
 gi : ∀ g ∈ t.gone, 1 ≤ g ∧ g ≤ 30
 dj : ∀ g ∈ t.gone, fieldOf t g = none
 is : t.items.Pairwise (fun x y => x.n < y.n)
 en : t.enum = true → t.fields = [] ∧ t.gone = []
 me : t.enum = false → t.items = []
theorem goodT_zero : GoodT .zero := ⟨by simp [TypeD.zero], by simp [TypeD.zero], by simp [TypeD.zero], by simp [TypeD.zero], by simp [TypeD.zero], by simp [TypeD.zero], by simp [TypeD.zero], by simp [TypeD.zero]⟩
theorem good_mem {b : BookD} (hg : goodF b = 0) {t : TypeD} (ht : t ∈ b) : GoodT t := by
 cases he : t.enum with
 | true =>
  have h := good_enum hg ht he
  have e1 : t.fields = [] := List.eq_nil_of_length_eq_zero h.2.2.2.1
  have e2 : t.gone = [] := List.eq_nil_of_length_eq_zero h.2.2.2.2
  refine ⟨by simp [e1], by simp [e1], by simp [e2], by simp [e2], by simp [e2], ?_, fun _ => ⟨e1, e2⟩, fun h => (by rw [he] at h; cases h)⟩
  exact pairwise_of_next (R := fun x y : ItemD => x.n < y.n) (fun _ _ _ h1 h2 => Int.lt_trans h1 h2) _ fun i hi h0 => (h.1 i hi).2.2.2.1 h0
 | false =>
  have h := good_msg hg ht he
  have e3 : t.items = [] := List.eq_nil_of_length_eq_zero h.2.1
  refine ⟨msg_sorted h, fun f hf => ⟨(msg_field h hf).2.1, (msg_field h hf).2.2.1⟩, ?_, ?_, ?_, by simp [e3], fun h => (by rw [he] at h; cases h), fun _ => e3⟩
  ·exact pairwise_of_next (R := fun x y : Int => x < y) (fun _ _ _ h1 h2 => Int.lt_trans h1 h2) _ fun i hi h0 => (h.2.2.2.1 i hi).2.2.2 h0
  ·intro g hgm
   obtain ⟨i, hi, rfl⟩ := List.getElem_of_mem hgm
   have := h.2.2.2.1 i hi
   exact ⟨this.2.1, this.2.2.1⟩
  ·intro g hgm
   obtain ⟨i, hi, rfl⟩ := List.getElem_of_mem hgm
   have := (h.2.2.2.1 i hi).1
   cases hf : fieldOf t t.gone[i] with
   | none => rfl
   | some f => rw [hf] at this; cases this
theorem good_typeOf {b : BookD} (hg : goodF b = 0) (name : ByteArray) : GoodT (typeOf b name) := by
 unfold typeOf
 cases h : findT b name with
 | none => exact goodT_zero
 | some t => exact good_mem hg (findT_some h).1
theorem book_sorted {b : BookD} (hg : goodF b = 0) : b.Pairwise (fun t u => ltN t.name u.name) :=
 pairwise_of_next (R := fun t u : TypeD => ltN t.name u.name) (fun _ _ _ => ltN_trans _ _ _) _ fun i hi h0 => (ltS_iff _ _).1 (((good_parts hg).2.1 i hi).2.1 h0)
theorem ltN_irr (a : ByteArray) : ¬ ltN a a := fun h => ltN_asymm _ _ h h
theorem uniq_key {α κ : Type} {r : κ → κ → Prop} (hr : ∀ a, ¬ r a a) {key : α → κ} : ∀ {l : List α}, l.Pairwise (fun t u => r (key t) (key u)) → ∀ {t u : α}, t ∈ l → u ∈ l → key u = key t → u = t
 | a :: l, h, t, u, ht, hu, e => by
  have hp := List.pairwise_cons.1 h
  rcases List.mem_cons.1 ht with ht | ht
  ·rcases List.mem_cons.1 hu with hu | hu
   ·exact hu.trans ht.symm
   ·have := hp.1 u hu; rw [e, ht] at this; exact absurd this (hr _)
  ·rcases List.mem_cons.1 hu with hu | hu
   ·have := hp.1 t ht; rw [← e, hu] at this; exact absurd this (hr _)
   ·exact uniq_key hr hp.2 ht hu e
theorem findT_memG {b : BookD} (hg : goodF b = 0) {t : TypeD} (ht : t ∈ b) : findT b t.name = some t :=
 find_key (key := TypeD.name) ht fun u hu e => uniq_key ltN_irr (key := TypeD.name) (book_sorted hg) ht hu e
theorem GoodT.field {t : TypeD} (h : GoodT t) {f : FieldD} (hf : f ∈ t.fields) : fieldOf t f.id = some f :=
 find_key (key := FieldD.id) hf fun u hu e => uniq_key (fun (a : Int) h => by omega) (key := FieldD.id) h.fs hf hu e
theorem itemOf_some {t : TypeD} {n : Int} {x : ItemD} (h : itemOf t n = some x) : x ∈ t.items ∧ x.n = n := by
 have h1 := List.mem_of_find?_eq_some h
 have h2 := List.find?_some h
 exact ⟨h1, by simpa using h2⟩
theorem GoodT.item {t : TypeD} (h : GoodT t) {x : ItemD} (hx : x ∈ t.items) : itemOf t x.n = some x :=
 find_key (key := ItemD.n) hx fun u hu e => uniq_key (fun (a : Int) h => by omega) (key := ItemD.n) h.is hx hu e
structure Made (w a b R : BookD) : Prop where
 k : ∀ n, kT w a b n = (kindS R n, true)
 f : ∀ n i, fT (typeOf w n) (typeOf a n) (typeOf b n) i = (fieldS (typeOf R n) i, true)
 g : ∀ n i, gT (typeOf w n) (typeOf a n) (typeOf b n) i = (goneS (typeOf R n) i, true)
 i : ∀ n i, iT (typeOf w n) (typeOf a n) (typeOf b n) i = (itemS (typeOf R n) i, true)
 sub : ∀ t ∈ R, t.name ∈ namesF [w, a, b]
 subi : ∀ n, ∀ x ∈ (typeOf R n).items, x.n ∈ numbersF [typeOf w n, typeOf a n, typeOf b n]
theorem made_left (w a : BookD) : Made w a w a := ⟨fun _ => three_left _ _, fun _ _ => three_left _ _, fun _ _ => three_left _ _, fun _ _ => three_left _ _,
 fun t ht => names_mem.2 ⟨a, by simp, t, ht, rfl⟩, fun n x hx => numbers_mem.2 ⟨typeOf a n, by simp, x, hx, rfl⟩⟩
theorem made_both (w a : BookD) : Made w a a a := ⟨fun _ => three_both _ _, fun _ _ => three_both _ _, fun _ _ => three_both _ _, fun _ _ => three_both _ _,
 fun t ht => names_mem.2 ⟨a, by simp, t, ht, rfl⟩, fun n x hx => numbers_mem.2 ⟨typeOf a n, by simp, x, hx, rfl⟩⟩
theorem made_right (w b : BookD) : Made w w b b := ⟨fun _ => three_right _ _, fun _ _ => three_right _ _, fun _ _ => three_right _ _, fun _ _ => three_right _ _,
 fun t ht => names_mem.2 ⟨b, by simp, t, ht, rfl⟩, fun n x hx => numbers_mem.2 ⟨typeOf b n, by simp, x, hx, rfl⟩⟩
section
variable {w a b R : BookD}
theorem Made.bad (h : Made w a b R) (hR : goodF R = 0) (n : ByteArray) (i : Int) : badId (typeOf w n) (typeOf a n) (typeOf b n) i = false := by
 unfold badId
 rw [h.f, h.g]
 simp only [Bool.not_true, Bool.false_or]
 have hT := good_typeOf hR n
 show ((fieldOf (typeOf R n) i).isSome && hasI (typeOf R n).gone i) = false
 cases hh : hasI (typeOf R n).gone i with
 | false => simp
 | true => rw [hT.dj i (hasI_iff.1 hh)]; rfl
theorem Made.types (h : Made w a b R) (hR : goodF R = 0) (n : ByteArray) : typesT (typeOf w n) (typeOf a n) (typeOf b n) n = ⟨n, false, (typeOf R n).fields, (typeOf R n).gone, (typeOf R n).items⟩ := by
 have hT := good_typeOf hR n
 unfold typesT
 congr 1
 ·refine eq_of_lt (r := fun f g : FieldD => f.id < g.id) (fun _ _ h h' => by omega) ?_ hT.fs ?_
  ·rw [List.pairwise_flatMap]
   have hk : ∀ i, ∀ f ∈ fieldsAt (typeOf w n) (typeOf a n) (typeOf b n) i, f.id = i := by
    intro i f hf
    unfold fieldsAt at hf
    rw [h.bad hR, h.f] at hf
    simp only [Bool.false_eq_true, if_false] at hf
    cases hfo : fieldOf (typeOf R n) i with
    | none => simp [fieldS, hfo] at hf
    | some f' =>
     have : f = f' := by simpa [fieldS, hfo] using hf
     subst this; exact (fieldOf_some hfo).2
   refine ⟨fun i _ => ?_, ?_⟩
   ·unfold fieldsAt
    split
    ·simp
    ·split <;> simp
   ·refine ids_sorted.imp fun {i j} hij f hf g hg => ?_
    rw [hk i f hf, hk j g hg]; exact hij
  ·intro f
   rw [List.mem_flatMap]
   have e : ∀ i, fieldsAt (typeOf w n) (typeOf a n) (typeOf b n) i = (fieldOf (typeOf R n) i).toList := by
    intro i
    unfold fieldsAt
    rw [h.bad hR, h.f]
    cases hfo : fieldOf (typeOf R n) i <;> simp [fieldS, hfo]
   constructor
   ·rintro ⟨i, _, hf⟩
    rw [e i] at hf
    exact (fieldOf_some (by simpa using hf)).1
   ·intro hf
    exact ⟨f.id, ids_mem.2 (hT.fi f hf), by rw [e, hT.field hf]; simp⟩
 ·have e : ∀ i, goneAt (typeOf w n) (typeOf a n) (typeOf b n) i = if i ∈ (typeOf R n).gone then [i] else [] := by
   intro i
   unfold goneAt
   rw [h.bad hR, h.f, h.g]
   have e1 : (fieldS (typeOf R n) i).there = (fieldOf (typeOf R n) i).isSome := rfl
   have e2 : (goneS (typeOf R n) i).there = hasI (typeOf R n).gone i := rfl
   simp only [Bool.false_eq_true, if_false, e1, e2]
   by_cases hi : i ∈ (typeOf R n).gone
   ·rw [hT.dj i hi, hasI_iff.2 hi]; simp [hi]
   ·have : hasI (typeOf R n).gone i = false := by
     cases hh : hasI (typeOf R n).gone i with
     | false => rfl
     | true => exact absurd (hasI_iff.1 hh) hi
    rw [this]; simp [hi]
  refine eq_of_lt (r := fun f g : Int => f < g) (fun _ _ h h' => by omega) ?_ hT.gs ?_
  ·rw [List.pairwise_flatMap]
   refine ⟨fun i _ => ?_, ?_⟩
   ·rw [e]; split <;> simp
   ·refine ids_sorted.imp fun {i j} hij f hf g hg => ?_
    rw [e] at hf hg
    split at hf
    ·split at hg
     ·simp at hf hg; omega
     ·cases hg
    ·cases hf
  ·intro g
   rw [List.mem_flatMap]
   constructor
   ·rintro ⟨i, _, hf⟩
    rw [e] at hf
    split at hf
    ·rename_i hi
     have : g = i := by simpa using hf
     subst this; exact hi
    ·cases hf
   ·intro hg
    exact ⟨g, ids_mem.2 (hT.gi g hg), by rw [e, if_pos hg]; simp⟩
 ·have e : ∀ i, itemsAt (typeOf w n) (typeOf a n) (typeOf b n) i = (itemOf (typeOf R n) i).toList := by
   intro i
   unfold itemsAt
   rw [h.i]
   unfold itemS
   cases hfo : itemOf (typeOf R n) i with
   | none => simp [noS]
   | some x =>
    have := (itemOf_some hfo).2
    obtain ⟨xn, xi⟩ := x
    simp at this ⊢
    exact this.symm
  refine eq_of_lt (r := fun f g : ItemD => f.n < g.n) (fun _ _ h h' => by omega) ?_ hT.is ?_
  ·rw [List.pairwise_flatMap]
   refine ⟨fun i _ => ?_, ?_⟩
   ·rw [e]; cases itemOf (typeOf R n) i <;> simp
   ·refine (numbers_sorted _).imp fun {i j} hij f hf g hg => ?_
    rw [e] at hf hg
    have h1 := (itemOf_some (Option.mem_toList.1 hf)).2
    have h2 := (itemOf_some (Option.mem_toList.1 hg)).2
    omega
  ·intro x
   rw [List.mem_flatMap]
   constructor
   ·rintro ⟨i, _, hf⟩
    rw [e] at hf
    exact (itemOf_some (Option.mem_toList.1 hf)).1
   ·intro hx
    exact ⟨x.n, h.subi n x hx, by rw [e, hT.item hx]; simp⟩
theorem Made.noL (h : Made w a b R) (hR : goodF R = 0) (n : ByteArray) : tyL w a b n = [] := by
 unfold tyL typesL
 have e1 : ∀ i, badAt (typeOf w n) (typeOf a n) (typeOf b n) n i = [] := fun i => by unfold badAt; rw [h.bad hR]; rfl
 have e2 : ∀ i, badIt (typeOf w n) (typeOf a n) (typeOf b n) n i = [] := fun i => by unfold badIt; rw [h.i]; rfl
 rw [List.flatMap_eq_nil_iff.2 fun i _ => e1 i, List.flatMap_eq_nil_iff.2 fun i _ => e2 i]
 rfl
theorem Made.name (h : Made w a b R) (hR : goodF R = 0) (n : ByteArray) : nameM w a b n = ((findT R n).toList, []) := by
 have ht : tyT w a b n = ⟨n, (typeOf R n).enum, (typeOf R n).fields, (typeOf R n).gone, (typeOf R n).items⟩ := by
  unfold tyT
  rw [h.types hR, h.k]
  rfl
 have hT := good_typeOf hR n
 unfold nameM
 rw [h.k, h.noL hR, ht]
 rw [if_neg (by simp), if_neg (by simp)]
 cases hf : findT R n with
 | none =>
  have e : typeOf R n = .zero := by unfold typeOf; rw [hf]; rfl
  rw [e, if_neg (by simp [clashF, kindS, hf, TypeD.zero]), if_neg (by simp [kindS, hf])]
  rfl
 | some t =>
  have e : typeOf R n = t := by unfold typeOf; rw [hf]; rfl
  have hn := (findT_some hf).2
  rw [e] at hT ⊢
  rw [if_neg, if_pos (by simp [kindS, hf])]
  ·subst hn; rfl
  ·unfold clashF
   simp only [kindS, hf, e, Option.isSome_some, Bool.not_true, Bool.false_and, Bool.false_or, Bool.true_and]
   cases he : t.enum with
   | true => rw [(hT.en he).1, (hT.en he).2]; simp
   | false => rw [hT.me he]; simp
theorem Made.books (h : Made w a b R) (hw : goodF w = 0) (ha : goodF a = 0) (hb : goodF b = 0) (hR : goodF R = 0) : booksM w a b = (R, [], 0) := by
 have hbad : badM w a b = [] := by
  unfold badM
  exact List.flatMap_eq_nil_iff.2 fun n _ => by rw [h.name hR]
 have hout : outM w a b = R := by
  unfold outM
  refine eq_of_lt (r := fun t u : TypeD => ltN t.name u.name) (fun _ _ h h' => ltN_asymm _ _ h h') ?_ (book_sorted hR) ?_
  ·rw [List.pairwise_flatMap]
   refine ⟨fun n _ => ?_, ?_⟩
   ·rw [h.name hR]; cases findT R n <;> simp
   ·refine (names_sorted _).imp fun {m n} hmn t ht u hu => ?_
    rw [h.name hR] at ht hu
    rw [(findT_some (Option.mem_toList.1 ht)).2, (findT_some (Option.mem_toList.1 hu)).2]
    exact hmn
  ·intro t
   rw [List.mem_flatMap]
   constructor
   ·rintro ⟨n, _, ht⟩
    rw [h.name hR] at ht
    exact (findT_some (Option.mem_toList.1 ht)).1
   ·intro ht
    exact ⟨t.name, h.sub t ht, by rw [h.name hR, findT_memG hR ht]; simp⟩
 unfold booksM
 rw [hbad, hout, if_neg (by simp [hw, ha, hb]), if_neg (by simp), if_neg (by simp [hR])]
end
theorem books_left {w a : BookD} (hw : goodF w = 0) (ha : goodF a = 0) : booksM w a w = (a, [], 0) := (made_left w a).books hw ha hw ha
theorem books_both {w a : BookD} (hw : goodF w = 0) (ha : goodF a = 0) : booksM w a a = (a, [], 0) := (made_both w a).books hw ha ha ha
theorem books_right {w b : BookD} (hw : goodF w = 0) (hb : goodF b = 0) : booksM w w b = (b, [], 0) := (made_right w b).books hw hw hb hb
theorem fieldS_off {t : TypeD} {i : Int} (h : (fieldS t i).there = false) : fieldS t i = noS := by
 cases hf : fieldOf t i with
 | none => simp [fieldS, hf, noS]
 | some f => simp [fieldS, hf] at h
theorem fT_form (x y z : TypeD) (i : Int) : ∃ t, (fT x y z i).1 = fieldS t i := by
 rcases three_one (fieldS x i) (fieldS y i) (fieldS z i) with h | h | h
 ·exact ⟨x, h⟩
 ·exact ⟨y, h⟩
 ·exact ⟨z, h⟩
theorem fieldsAt_id {x y z : TypeD} {i : Int} : ∀ f ∈ fieldsAt x y z i, f.id = i := by
 intro f hf
 obtain ⟨t, ht⟩ := fT_form x y z i
 unfold fieldsAt at hf
 split at hf
 ·cases hf
 ·split at hf
  ·rename_i h
   rw [ht] at h hf
   cases hfo : fieldOf t i with
   | none => simp [fieldS, hfo] at h
   | some f' =>
    have : f = f' := by simpa [fieldS, hfo] using hf
    subst this; exact (fieldOf_some hfo).2
  ·cases hf
theorem nameM_name {w a b : BookD} {n : ByteArray} : ∀ t ∈ (nameM w a b n).1, t.name = n := by
 intro t ht
 unfold nameM at ht
 split at ht
 ·cases ht
 ·split at ht
  ·cases ht
  ·split at ht
   ·cases ht
   ·split at ht
    ·have : t = tyT w a b n := by simpa using ht
     rw [this]; rfl
    ·cases ht
theorem nameM_len {w a b : BookD} {n : ByteArray} : (nameM w a b n).1.length ≤ 1 := by
 unfold nameM
 split
 ·simp
 ·split
  ·simp
  ·split
   ·simp
   ·split <;> simp
theorem noS_three : threeF noS noS noS = (noS, true) := three_left _ _
theorem fieldS_out {t : TypeD} (h : GoodT t) {i : Int} (hi : ¬ (1 ≤ i ∧ i ≤ 30)) : fieldS t i = noS := by
 cases hf : fieldOf t i with
 | none => simp [fieldS, hf, noS]
 | some f =>
  have := fieldOf_some hf
  exact absurd (this.2 ▸ h.fi f this.1) hi
theorem fieldOf_flat {n : ByteArray} {e : Bool} {g : List Int} {it : List ItemD} {x y z : TypeD} {i : Int} (hi : i ∈ idsL) : fieldOf ⟨n, e, idsL.flatMap (fieldsAt x y z), g, it⟩ i = (fieldsAt x y z i).head? :=
 find_flat (key := FieldD.id) (fun n _ u hu => fieldsAt_id u hu) hi (by
  unfold fieldsAt
  repeat' split
  all_goals simp)
theorem fieldOf_flat_none {n : ByteArray} {e : Bool} {g : List Int} {it : List ItemD} {x y z : TypeD} {i : Int} (hi : i ∉ idsL) : fieldOf ⟨n, e, idsL.flatMap (fieldsAt x y z), g, it⟩ i = none :=
 find_flat_none (key := FieldD.id) (fun n _ u hu => fieldsAt_id u hu) hi
theorem books_ok {w a b : BookD} (h : (booksM w a b).2.2 = 0) : goodF w = 0 ∧ goodF a = 0 ∧ goodF b = 0 ∧ badM w a b = [] ∧ booksM w a b = (outM w a b, [], 0) := by
 unfold booksM at h ⊢
 split at h
 ·simp at h
 ·rename_i h1
  rw [if_neg h1]
  split at h
  ·simp at h
  ·rename_i h2
   rw [if_neg h2]
   split at h
   ·rename_i h3; simp at h; exact absurd h h3
   ·rename_i h3
    rw [if_neg h3]
    exact ⟨by omega, by omega, by omega, List.eq_nil_of_length_eq_zero (by omega), rfl⟩
theorem typeOf_zero {b : BookD} {n : ByteArray} (h : ∀ t ∈ b, t.name ≠ n) : typeOf b n = .zero := by
 have : findT b n = none := by
  unfold findT
  rw [List.find?_eq_none]
  intro t ht; simpa using h t ht
 unfold typeOf
 rw [this]; rfl
theorem made_field {w a b : BookD} (h : (booksM w a b).2.2 = 0) (n : ByteArray) (i : Int) :
  threeF (fieldS (typeOf w n) i) (fieldS (typeOf a n) i) (fieldS (typeOf b n) i) = (fieldS (typeOf (booksM w a b).1 n) i, true) := by
 obtain ⟨hw, ha, hb, hbad, he⟩ := books_ok h
 rw [he]
 show _ = (fieldS (typeOf (outM w a b) n) i, true)
 by_cases hn : n ∈ namesF [w, a, b]
 ·have hnb : (nameM w a b n).2 = [] := List.flatMap_eq_nil_iff.1 hbad n hn
  have hfind : findT (outM w a b) n = (nameM w a b n).1.head? := find_flat (key := TypeD.name) (fun m _ => nameM_name) hn nameM_len
  unfold nameM at hnb hfind
  split at hnb
  ·cases hnb
  ·rename_i h1
   rw [if_neg h1] at hfind
   split at hnb
   ·rename_i h2
    rw [show tyL w a b n = [] from hnb] at h2
    simp at h2
   ·rename_i h2
    rw [if_neg h2] at hfind
    split at hnb
    ·cases hnb
    ·rename_i h3
     rw [if_neg h3] at hfind
     have hL : tyL w a b n = [] := List.eq_nil_of_length_eq_zero (by omega)
     have hok : ∀ j ∈ idsL, badId (typeOf w n) (typeOf a n) (typeOf b n) j = false := by
      intro j hj
      have := List.flatMap_eq_nil_iff.1 (List.append_eq_nil_iff.1 hL).1 j hj
      unfold badAt at this
      split at this
      ·cases this
      ·rename_i hbj; simpa using hbj
     by_cases hi : i ∈ idsL
     ·have hbi := hok i hi
      have h2i : (fT (typeOf w n) (typeOf a n) (typeOf b n) i).2 = true := by
       unfold badId at hbi
       cases hx : (fT (typeOf w n) (typeOf a n) (typeOf b n) i).2 with
       | true => rfl
       | false => rw [hx] at hbi; simp at hbi
      have hpair : fT (typeOf w n) (typeOf a n) (typeOf b n) i = ((fT (typeOf w n) (typeOf a n) (typeOf b n) i).1, true) := Prod.ext rfl h2i
      show fT (typeOf w n) (typeOf a n) (typeOf b n) i = _
      rw [hpair]
      congr 1
      obtain ⟨t, ht⟩ := fT_form (typeOf w n) (typeOf a n) (typeOf b n) i
      by_cases hk : (kT w a b n).1.there = true
      ·rw [if_pos hk] at hfind
       have htt : typeOf (outM w a b) n = tyT w a b n := by unfold typeOf; rw [hfind]; rfl
       have hfo : fieldOf (tyT w a b n) i = (fieldsAt (typeOf w n) (typeOf a n) (typeOf b n) i).head? := fieldOf_flat hi
       rw [htt]
       unfold fieldS
       rw [hfo]
       unfold fieldsAt
       rw [hbi, if_neg (by simp), ht]
       cases hft : fieldOf t i with
       | none => simp [fieldS, hft]
       | some f => simp [fieldS, hft]
      ·rw [if_neg hk] at hfind
       have htt : typeOf (outM w a b) n = .zero := by unfold typeOf; rw [hfind]; rfl
       have hk' : (kT w a b n).1.there = false := by simpa using hk
       have h3' : clashF (kT w a b n).1 (tyT w a b n) = false := by simpa using h3
       unfold clashF at h3'
       rw [hk'] at h3'
       simp only [Bool.not_false, Bool.true_and, Bool.false_and, Bool.or_false, Bool.or_eq_false_iff, decide_eq_false_iff_not] at h3'
       have hfz : (tyT w a b n).fields = [] := List.eq_nil_of_length_eq_zero (by omega)
       have hz := List.flatMap_eq_nil_iff.1 (show idsL.flatMap (fieldsAt (typeOf w n) (typeOf a n) (typeOf b n)) = [] from hfz) i hi
       unfold fieldsAt at hz
       rw [hbi, if_neg (by simp)] at hz
       rw [htt, ht]
       split at hz
       ·cases hz
       ·rename_i hth
        rw [ht] at hth
        rw [fieldS_off (by simpa using hth)]
        rfl
     ·have hi' : ¬ (1 ≤ i ∧ i ≤ 30) := fun h => hi (ids_mem.2 h)
      rw [fieldS_out (good_typeOf hw n) hi', fieldS_out (good_typeOf ha n) hi', fieldS_out (good_typeOf hb n) hi', noS_three]
      congr 1
      by_cases hk : (kT w a b n).1.there = true
      ·rw [if_pos hk] at hfind
       have htt : typeOf (outM w a b) n = tyT w a b n := by unfold typeOf; rw [hfind]; rfl
       have hfo : fieldOf (tyT w a b n) i = none := fieldOf_flat_none hi
       rw [htt]
       simp [fieldS, hfo, noS]
      ·rw [if_neg hk] at hfind
       have htt : typeOf (outM w a b) n = .zero := by unfold typeOf; rw [hfind]; rfl
       rw [htt]; rfl
 ·have hz : ∀ c ∈ [w, a, b], typeOf c n = .zero := fun c hc => typeOf_zero fun t ht e => hn (names_mem.2 ⟨c, hc, t, ht, e⟩)
  have ho : typeOf (outM w a b) n = .zero := by
   have hfind : findT (outM w a b) n = none := find_flat_none (key := TypeD.name) (fun m _ => nameM_name) hn
   unfold typeOf; rw [hfind]; rfl
  rw [hz w (by simp), hz a (by simp), hz b (by simp), ho]
  exact noS_three
theorem made_fields {w a b : BookD} (h : (booksM w a b).2.2 = 0) (n : ByteArray) (i : Int) :
  (fieldS (typeOf w n) i = fieldS (typeOf a n) i → fieldS (typeOf (booksM w a b).1 n) i = fieldS (typeOf b n) i) ∧
  (fieldS (typeOf w n) i ≠ fieldS (typeOf a n) i → fieldS (typeOf w n) i = fieldS (typeOf b n) i ∨ fieldS (typeOf a n) i = fieldS (typeOf b n) i → fieldS (typeOf (booksM w a b).1 n) i = fieldS (typeOf a n) i) ∧
  (fieldS (typeOf w n) i ≠ fieldS (typeOf a n) i → fieldS (typeOf w n) i = fieldS (typeOf b n) i ∨ fieldS (typeOf a n) i = fieldS (typeOf b n) i) := by
 have hm := made_field h n i
 generalize fieldS (typeOf (booksM w a b).1 n) i = X at *
 generalize fieldS (typeOf w n) i = F at *
 generalize fieldS (typeOf a n) i = G at *
 generalize fieldS (typeOf b n) i = H at *
 unfold threeF at hm
 split at hm
 ·rename_i h1
  have hX : G = X := congrArg Prod.fst hm
  subst hX
  refine ⟨?_, fun _ _ => rfl, fun hne => ?_⟩
  ·rintro rfl; rcases h1 with h1 | h1
   ·exact h1
   ·exact h1.symm
  ·rcases h1 with h1 | h1
   ·exact .inr h1
   ·exact .inl h1.symm
 ·split at hm
  ·rename_i h1 h2
   have hX : H = X := congrArg Prod.fst hm
   subst hX
   exact ⟨fun _ => rfl, fun hne => absurd h2.symm hne, fun hne => absurd h2.symm hne⟩
  ·cases congrArg Prod.snd hm
theorem books_none {w a b : BookD} (h : (booksM w a b).2.2 ≠ 0) : (booksM w a b).1 = [] := by
 unfold booksM at h ⊢
 split
 ·rfl
 ·split
  ·rfl
  ·split
   ·rfl
   ·rename_i h1 h2 h3
    rw [if_neg h1, if_neg h2, if_neg h3] at h
    exact absurd rfl h
end Go.Proofs.YtihdnjnhhhafkaaGreatDoor
namespace Go.Proofs.YtihdnjnhhhafkaaGreatDoor
theorem splitF_stable : ∀ (k k' : Nat) (l : List UInt8), l.length ≤ k → l.length ≤ k' → splitF k l = splitF k' l
 | 0, k', l, h, _ => by
  obtain rfl : l = [] := List.eq_nil_of_length_eq_zero (by omega)
  cases k' <;> rfl
 | k + 1, k', [], _, _ => by cases k' <;> rfl
 | k + 1, 0, c :: l, _, h => by simp at h
 | k + 1, k' + 1, c :: l, h, h' => by
  have h1 : l.length ≤ k := by simpa using h
  have h2 : l.length ≤ k' := by simpa using h'
  have hd : ∀ p : UInt8 → Bool, (l.dropWhile p).length ≤ l.length := fun p => (List.dropWhile_suffix p).length_le
  rw [splitF, splitF, splitF_stable k k' l h1 h2, splitF_stable k k' (l.dropWhile isLet) (by have := hd isLet; omega) (by have := hd isLet; omega), splitF_stable k k' (l.dropWhile isDig) (by have := hd isDig; omega) (by have := hd isDig; omega)]
def Spl (l : List UInt8) (ws : List ByteArray) : Prop := splitF l.length l = some ws
theorem Spl.nil : Spl [] [] := rfl
theorem Spl.white {c : UInt8} {l : List UInt8} {ws : List ByteArray} (h : isWhite c = true) (hs : Spl l ws) : Spl (c :: l) ws := by
 unfold Spl at *; rw [List.length_cons, splitF, if_pos h]; exact hs
theorem Spl.sign {c : UInt8} {l : List UInt8} {ws : List ByteArray} (h : isWhite c = false) (h2 : isSign c = true) (hs : Spl l ws) : Spl (c :: l) (⟨#[c]⟩ :: ws) := by
 unfold Spl at *; rw [List.length_cons, splitF, if_neg (by simp [h]), if_pos h2, hs]; rfl
def NoHead (p : UInt8 → Bool) (l : List UInt8) : Prop := ∀ c, l.head? = some c → p c = false
theorem take_word {p : UInt8 → Bool} {w l : List UInt8} (ha : ∀ c ∈ w, p c = true) (hl : NoHead p l) : (w ++ l).takeWhile p = w ∧ (w ++ l).dropWhile p = l := by
 rw [List.takeWhile_append_of_pos ha, List.dropWhile_append_of_pos ha]
 cases l with
 | nil => simp
 | cons c l =>
  have := hl c rfl
  simp [List.takeWhile_cons, List.dropWhile_cons, this]
theorem let_class {c : UInt8} (h : isLet c = true) : isWhite c = false ∧ isSign c = false := by
 simp only [isLet, isWhite, isSign, decide_eq_true_eq, decide_eq_false_iff_not] at *
 omega
theorem num_class {c : UInt8} (h : (decide (c.toNat = 45) || isDig c) = true) : isWhite c = false ∧ isSign c = false ∧ isLet c = false := by
 simp only [isLet, isWhite, isSign, isDig, Bool.or_eq_true, decide_eq_true_eq, decide_eq_false_iff_not] at *
 omega
theorem Spl.word {w l : List UInt8} {ws : List ByteArray} (hw : w ≠ []) (ha : ∀ c ∈ w, isLet c = true) (hl : NoHead isLet l) (hs : Spl l ws) : Spl (w ++ l) (⟨w.toArray⟩ :: ws) := by
 cases w with
 | nil => exact absurd rfl hw
 | cons c w =>
  have hc := ha c (by simp)
  obtain ⟨h1, h2⟩ := let_class hc
  obtain ⟨e1, e2⟩ := take_word (w := w) (l := l) (fun x hx => ha x (by simp [hx])) hl
  unfold Spl at *
  rw [List.cons_append, List.length_cons, splitF, if_neg (by simp [h1]), if_neg (by simp [h2]), if_pos hc, e1, e2, splitF_stable _ l.length l (by simp) (Nat.le_refl _), hs]
  rfl
theorem Spl.num {w l : List UInt8} {ws : List ByteArray} {c : UInt8} (hc : (decide (c.toNat = 45) || isDig c) = true) (ha : ∀ c ∈ w, isDig c = true) (hl : NoHead isDig l) (hs : Spl l ws) : Spl (c :: w ++ l) (⟨(c :: w).toArray⟩ :: ws) := by
 obtain ⟨h1, h2, h3⟩ := num_class hc
 obtain ⟨e1, e2⟩ := take_word (w := w) (l := l) ha hl
 unfold Spl at *
 rw [List.cons_append, List.length_cons, splitF, if_neg (by simp [h1]), if_neg (by simp [h2]), if_neg (by simp [h3]), if_pos hc, e1, e2, splitF_stable _ l.length l (by simp) (Nat.le_refl _), hs]
 rfl
theorem decDigits_dig : ∀ (u : Nat), (∀ c ∈ Lib.decDigits u, isDig c = true) ∧ Lib.decDigits u ≠ [] := by
 intro u
 induction u using Nat.strongRecOn with
 | ind u ih =>
  rw [Lib.decDigits]
  split
  ·rename_i h
   refine ⟨fun c hc => ?_, by simp⟩
   simp only [List.mem_singleton] at hc
   subst hc
   simp only [isDig, decide_eq_true_eq, UInt8.toNat_ofNat']
   omega
  ·rename_i h
   refine ⟨fun c hc => ?_, by simp⟩
   rcases List.mem_append.1 hc with hc | hc
   ·exact (ih (u / 10) (by omega)).1 c hc
   ·simp only [List.mem_singleton] at hc
    subst hc
    simp only [isDig, decide_eq_true_eq, UInt8.toNat_ofNat']
    omega
theorem itoa_form (n : Int) : ∃ c w, Lib.itoa n = c :: w ∧ (decide (c.toNat = 45) || isDig c) = true ∧ ∀ x ∈ w, isDig x = true := by
 unfold Lib.itoa
 split
 ·exact ⟨45, _, rfl, rfl, fun x hx => (decDigits_dig _).1 x hx⟩
 ·obtain ⟨ha, hn⟩ := decDigits_dig n.toNat
  cases h : Lib.decDigits n.toNat with
  | nil => exact absurd h hn
  | cons c w =>
   rw [h] at ha
   exact ⟨c, w, rfl, by rw [ha c (by simp), Bool.or_true], fun x hx => ha x (by simp [hx])⟩
theorem decFrom_append (acc : Nat) : ∀ (l m : List UInt8), Lib.decFrom acc (l ++ m) = (Lib.decFrom acc l).bind (Lib.decFrom · m) := by
 intro l
 induction l generalizing acc with
 | nil => intro m; rfl
 | cons c l ih =>
  intro m
  simp only [List.cons_append, Lib.decFrom]
  cases Lib.digitVal c with
  | none => rfl
  | some d => exact ih _ m
theorem digitVal_of (d : Nat) (h : d < 10) : Lib.digitVal (UInt8.ofNat (48 + d)) = some d := by
 unfold Lib.digitVal
 have e : (UInt8.ofNat (48 + d)).toNat = 48 + d := by simp only [UInt8.toNat_ofNat']; omega
 rw [e, if_pos (by omega)]
 congr 1; omega
theorem decFrom_digits (u : Nat) : Lib.decFrom 0 (Lib.decDigits u) = some u := by
 induction u using Nat.strongRecOn with
 | ind u ih =>
  rw [Lib.decDigits]
  split
  ·rename_i h
   simp only [Lib.decFrom, digitVal_of u h]
   simp
  ·rename_i h
   rw [decFrom_append, ih (u / 10) (by omega)]
   simp only [Option.bind_some, Lib.decFrom, digitVal_of (u % 10) (Nat.mod_lt _ (by decide))]
   simp only [Option.some.injEq]
   omega
theorem decDigits_len : ∀ (k u : Nat), u < 10 ^ (k + 1) → (Lib.decDigits u).length ≤ k + 1
 | 0, u, h => by rw [Lib.decDigits, dif_pos (by simpa using h)]; simp
 | k + 1, u, h => by
  rw [Lib.decDigits]
  split
  ·simp
  ·have := decDigits_len k (u / 10) (by rw [Nat.pow_succ] at h; omega)
   simp only [List.length_append, List.length_singleton]
   omega
theorem itoa_len {n : Int} (h1 : -1099511627776 ≤ n) (h2 : n ≤ 1099511627776) : (Lib.itoa n).length ≤ 14 := by
 unfold Lib.itoa
 split
 ·have := decDigits_len 12 n.natAbs (by omega)
  simp only [List.length_cons]; omega
 ·have := decDigits_len 12 n.toNat (by omega)
  omega
theorem atoi_itoa (n : Int) : Lib.atoi (Lib.itoa n) = some n := by
 unfold Lib.itoa
 split
 ·rename_i h
  obtain ⟨_, hn⟩ := decDigits_dig n.natAbs
  have hd := decFrom_digits n.natAbs
  simp only [Lib.atoi, Lib.decNat]
  cases hq : Lib.decDigits n.natAbs with
  | nil => exact absurd hq hn
  | cons c w =>
   rw [hq] at hd
   simp [hd]
   omega
 ·rename_i h
  obtain ⟨ha, hn⟩ := decDigits_dig n.toNat
  have hd := decFrom_digits n.toNat
  cases hq : Lib.decDigits n.toNat with
  | nil => exact absurd hq hn
  | cons c w =>
   rw [hq] at hd ha
   have hc := ha c (by simp)
   simp only [isDig, decide_eq_true_eq] at hc
   have h45 : c.toNat ≠ 45 := by omega
   have h43 : c.toNat ≠ 43 := by omega
   have b45 : (c == 45) = false := by
    cases hb : c == 45 with
    | false => rfl
    | true => exact absurd (congrArg UInt8.toNat (eq_of_beq hb)) h45
   have b43 : (c == 43) = false := by
    cases hb : c == 43 with
    | false => rfl
    | true => exact absurd (congrArg UInt8.toNat (eq_of_beq hb)) h43
   simp only [Lib.atoi, Lib.decNat, hd, b45, b43, Bool.false_eq_true, if_false, List.isEmpty_cons, Option.map_some, Option.some.injEq]
   omega
end Go.Proofs.YtihdnjnhhhafkaaGreatDoor
namespace Go.Proofs.YtihdnjnhhhafkaaGreatDoor
theorem blank_split : ∀ {a b x y : List UInt8}, 32 ∉ a → 32 ∉ b → a ++ 32 :: x = b ++ 32 :: y → a = b ∧ x = y
 | [], [], _, _, _, _, h => ⟨rfl, (List.cons.inj h).2⟩
 | [], c :: b, _, _, _, hb, h => by
  have := (List.cons.inj h).1
  exact absurd (this ▸ List.mem_cons_self) hb
 | c :: a, [], _, _, ha, _, h => by
  have := (List.cons.inj h).1
  exact absurd (this ▸ List.mem_cons_self) ha
 | c :: a, d :: b, _, _, ha, hb, h => by
  obtain ⟨h1, h2⟩ := List.cons.inj h
  obtain ⟨h3, h4⟩ := blank_split (fun h => ha (List.mem_cons_of_mem _ h)) (fun h => hb (List.mem_cons_of_mem _ h)) h2
  exact ⟨by rw [h1, h3], h4⟩
theorem told_inj {D : Int → List UInt8} (hD : ∀ m n, D m = D n → m = n) (hs : ∀ n, 32 ∉ D n) {k k' r r' : Int} {n n' t t' : List UInt8} (hn : 32 ∉ n) (hn' : 32 ∉ n')
  (h : D k ++ 32 :: (D r ++ 32 :: (n ++ 32 :: t)) = D k' ++ 32 :: (D r' ++ 32 :: (n' ++ 32 :: t'))) : k = k' ∧ r = r' ∧ n = n' ∧ t = t' := by
 obtain ⟨h1, h2⟩ := blank_split (hs _) (hs _) h
 obtain ⟨h3, h4⟩ := blank_split (hs _) (hs _) h2
 obtain ⟨h5, h6⟩ := blank_split hn hn' h4
 exact ⟨hD _ _ h1, hD _ _ h3, h5, h6⟩
theorem named_no32 {s : ByteArray} (h : namedF s = true) : 32 ∉ bytes s := by
 intro hm
 unfold namedF at h
 simp only [Bool.and_eq_true, List.all_eq_true, decide_eq_true_eq] at h
 have := (h.1.1 32 hm).1
 revert this
 decide
theorem named_some {s : ByteArray} (h : namedF s = true) : s ≠ ⟨#[]⟩ := by
 rintro rfl
 exact absurd h (by decide)
theorem itoa_blank (n : Int) : 32 ∉ Lib.itoa n := by
 obtain ⟨c, w, h, h1, h2⟩ := itoa_form n
 rw [h]
 intro hm
 rcases List.mem_cons.1 hm with rfl | hm
 ·exact absurd h1 (by decide)
 ·exact absurd (h2 32 hm) (by decide)
theorem itoa_inj (m n : Int) (h : Lib.itoa m = Lib.itoa n) : m = n := by
 have := atoi_itoa m
 rw [h, atoi_itoa] at this
 exact (Option.some.inj this).symm
def toldT (b : BookD) (name : ByteArray) : ByteArray := if (findT b name).isSome = true then (if (typeOf b name).enum = true then ⟨#[101, 110, 117, 109]⟩ else ⟨#[109, 101, 115, 115, 97, 103, 101]⟩) else ⟨#[]⟩
def toldF (t : TypeD) (id : Int) : ByteArray := match fieldOf t id with
 | some f => ⟨(Lib.itoa f.kind ++ 32 :: (Lib.itoa f.rule ++ 32 :: (bytes f.name ++ 32 :: bytes f.type))).toArray⟩
 | none => ⟨#[]⟩
def toldG (t : TypeD) (id : Int) : ByteArray := if hasI t.gone id = true then ⟨#[103, 111, 110, 101]⟩ else ⟨#[]⟩
def toldI (t : TypeD) (n : Int) : ByteArray := match itemOf t n with
 | some x => x.name
 | none => ⟨#[]⟩
theorem toldT_iff (b b' : BookD) (name : ByteArray) : toldT b name = toldT b' name ↔ kindS b name = kindS b' name := by
 have hz : ∀ c : BookD, (findT c name).isSome = false → (typeOf c name).enum = false := fun c h => by
  unfold typeOf
  rw [Option.isSome_eq_false_iff, Option.isNone_iff_eq_none] at h
  rw [h]; rfl
 unfold toldT kindS
 have h1 := hz b
 have h2 := hz b'
 generalize (findT b name).isSome = s1 at *
 generalize (findT b' name).isSome = s2 at *
 generalize (typeOf b name).enum = e1 at *
 generalize (typeOf b' name).enum = e2 at *
 cases s1 <;> cases s2 <;> cases e1 <;> cases e2 <;> first | exact absurd (h1 rfl) (by decide) | exact absurd (h2 rfl) (by decide) | decide
theorem toldG_iff (t t' : TypeD) (id : Int) : toldG t id = toldG t' id ↔ goneS t id = goneS t' id := by
 unfold toldG goneS
 generalize hasI t.gone id = s1
 generalize hasI t'.gone id = s2
 cases s1 <;> cases s2 <;> decide
theorem arr_inj {a b : List UInt8} (h : (⟨a.toArray⟩ : ByteArray) = ⟨b.toArray⟩) : a = b := by
 have := congrArg (fun x : ByteArray => x.data.toList) h
 simpa using this
theorem toldF_iff {t t' : TypeD} {id : Int} (h : ∀ f, fieldOf t id = some f → namedF f.name = true ∧ f.id = id) (h' : ∀ f, fieldOf t' id = some f → namedF f.name = true ∧ f.id = id) : toldF t id = toldF t' id ↔ fieldS t id = fieldS t' id := by
 unfold toldF fieldS
 cases e : fieldOf t id with
 | none =>
  cases e' : fieldOf t' id with
  | none => simp
  | some g =>
   refine ⟨fun q => ?_, fun q => ?_⟩
   ·have := arr_inj (a := []) q
    cases hi : Lib.itoa g.kind <;> rw [hi] at this <;> cases this
   ·have := congrArg StateD.there q
    cases this
 | some f =>
  cases e' : fieldOf t' id with
  | none =>
   refine ⟨fun q => ?_, fun q => ?_⟩
   ·have := arr_inj (b := []) q
    cases hi : Lib.itoa f.kind <;> rw [hi] at this <;> cases this
   ·have := congrArg StateD.there q
    cases this
  | some g =>
   refine ⟨fun q => ?_, fun q => ?_⟩
   ·obtain ⟨a1, a2, a3, a4⟩ := told_inj itoa_inj itoa_blank (named_no32 (h f e).1) (named_no32 (h' g e').1) (arr_inj q)
    have i1 := (h f e).2
    have i2 := (h' g e').2
    obtain ⟨fi, fn, ft, fk, fr⟩ := f
    obtain ⟨gi, gn, gt, gk, gr⟩ := g
    have b1 : fn = gn := by have := congrArg (fun l : List UInt8 => (⟨l.toArray⟩ : ByteArray)) a3; exact ByteArray.ext (by simpa [bytes] using this)
    have b2 : ft = gt := by have := congrArg (fun l : List UInt8 => (⟨l.toArray⟩ : ByteArray)) a4; exact ByteArray.ext (by simpa [bytes] using this)
    dsimp only at a1 a2 i1 i2
    subst a1 a2 b1 b2 i1 i2
    rfl
   ·have := congrArg StateD.field q
    dsimp only [Option.getD_some] at this
    rw [this]
theorem toldI_iff {t t' : TypeD} {n : Int} (h : ∀ x, itemOf t n = some x → namedF x.name = true) (h' : ∀ x, itemOf t' n = some x → namedF x.name = true) : toldI t n = toldI t' n ↔ itemS t n = itemS t' n := by
 unfold toldI itemS
 cases e : itemOf t n with
 | none =>
  cases e' : itemOf t' n with
  | none => simp
  | some g => exact ⟨fun q => absurd q.symm (named_some (h' g e')), fun q => by have := congrArg StateD.there q; cases this⟩
 | some f =>
  cases e' : itemOf t' n with
  | none => exact ⟨fun q => absurd q (named_some (h f e)), fun q => by have := congrArg StateD.there q; cases this⟩
  | some g => exact ⟨fun q => by dsimp only at q ⊢; rw [q], fun q => congrArg StateD.item q⟩
def pickF (x y z : ByteArray) : Nat := if y = z ∨ z = x then 1 else if y = x then 2 else 0
theorem pick_three {x y z : ByteArray} {X Y Z : StateD} (h1 : y = z ↔ Y = Z) (h2 : z = x ↔ Z = X) (h3 : y = x ↔ Y = X) : threeF X Y Z = if pickF x y z = 1 then (Y, true) else if pickF x y z = 2 then (Z, true) else (X, false) := by
 unfold threeF pickF
 by_cases a : Y = Z ∨ Z = X
 ·have b : y = z ∨ z = x := a.imp h1.2 h2.2
  rw [if_pos a, if_pos b]; rfl
 ·have b : ¬ (y = z ∨ z = x) := fun q => a (q.imp h1.1 h2.1)
  rw [if_neg a, if_neg b]
  by_cases c : Y = X
  ·have d : y = x := h3.2 c
   rw [if_pos c, if_pos d]; rfl
  ·have d : ¬ y = x := fun q => c (h3.1 q)
   rw [if_neg c, if_neg d]; rfl
theorem three_gone (x y z : TypeD) (id : Int) : (threeF (goneS x id) (goneS y id) (goneS z id)).2 = true := by
 unfold goneS
 generalize hasI x.gone id = s1
 generalize hasI y.gone id = s2
 generalize hasI z.gone id = s3
 cases s1 <;> cases s2 <;> cases s3 <;> decide
end Go.Proofs.YtihdnjnhhhafkaaGreatDoor
namespace Go.Proofs.YtihdnjnhhhafkaaGreatDoor
def nextStep {α : Type} [DecidableEq α] (r : α → α → Bool) (e all : α) (m x : α) : α := if r all x = true ∧ (m = e ∨ r x m = true) then x else m
def nextF {α : Type} [DecidableEq α] (r : α → α → Bool) (e all : α) (l : List α) : α := l.foldl (nextStep r e all) e
theorem next_fold {α : Type} [DecidableEq α] {r : α → α → Bool} {e all : α} (htr : ∀ a b c, r a b = true → r b c = true → r a c = true) (htot : ∀ a b, a = b ∨ r a b = true ∨ r b a = true) :
  ∀ (l : List α) (m : α), (∀ x ∈ l, x ≠ e) → (m = e ∨ r all m = true) →
  (l.foldl (nextStep r e all) m = e ∧ m = e ∧ ∀ x ∈ l, r all x = false) ∨
  (l.foldl (nextStep r e all) m ≠ e ∧ r all (l.foldl (nextStep r e all) m) = true ∧ (l.foldl (nextStep r e all) m = m ∨ l.foldl (nextStep r e all) m ∈ l) ∧ (m ≠ e → m = l.foldl (nextStep r e all) m ∨ r (l.foldl (nextStep r e all) m) m = true) ∧ ∀ x ∈ l, r all x = true → x = l.foldl (nextStep r e all) m ∨ r (l.foldl (nextStep r e all) m) x = true)
 | [], m, _, hm => by
  by_cases h : m = e
  ·exact .inl ⟨h, h, fun _ h => by cases h⟩
  ·exact .inr ⟨h, hm.resolve_left h, .inl rfl, fun _ => .inl rfl, fun _ h => by cases h⟩
 | x :: l, m, hl, hm => by
  rw [List.foldl_cons]
  have hxe := hl x List.mem_cons_self
  have hl' : ∀ y ∈ l, y ≠ e := fun y hy => hl y (List.mem_cons_of_mem _ hy)
  by_cases hs : r all x = true ∧ (m = e ∨ r x m = true)
  ·have hst : nextStep r e all m x = x := if_pos hs
   rw [hst]
   rcases next_fold htr htot l x hl' (.inr hs.1) with ⟨_, h, _⟩ | ⟨h1, h2, h3, h4, h5⟩
   ·exact absurd h hxe
   ·have h4' := h4 hxe
    refine .inr ⟨h1, h2, .inr ?_, fun hme => ?_, fun y hy hay => ?_⟩
    ·rcases h3 with h | h
     ·rw [h]; exact List.mem_cons_self
     ·exact List.mem_cons_of_mem _ h
    ·have hxm := hs.2.resolve_left hme
     rcases h4' with h | h
     ·rw [← h]; exact .inr hxm
     ·exact .inr (htr _ _ _ h hxm)
    ·rcases List.mem_cons.1 hy with rfl | hy
     ·exact h4'
     ·exact h5 y hy hay
  ·have hst : nextStep r e all m x = m := if_neg hs
   rw [hst]
   have hx : r all x = true → m ≠ e ∧ (x = m ∨ r m x = true) := fun hax => by
    have hme : m ≠ e := fun h => hs ⟨hax, .inl h⟩
    refine ⟨hme, ?_⟩
    rcases htot x m with h | h | h
    ·exact .inl h
    ·exact absurd ⟨hax, .inr h⟩ hs
    ·exact .inr h
   rcases next_fold htr htot l m hl' hm with ⟨h1, h2, h3⟩ | ⟨h1, h2, h3, h4, h5⟩
   ·refine .inl ⟨h1, h2, fun y hy => ?_⟩
    rcases List.mem_cons.1 hy with rfl | hy
    ·cases h : r all y with
     | false => rfl
     | true => exact absurd h2 (hx h).1
    ·exact h3 y hy
   ·refine .inr ⟨h1, h2, h3.imp id (List.mem_cons_of_mem _), h4, fun y hy hay => ?_⟩
    rcases List.mem_cons.1 hy with rfl | hy
    ·obtain ⟨hme, hq⟩ := hx hay
     rcases h4 hme with h | h
     ·rw [← h]; exact hq
     ·rcases hq with hq | hq
      ·rw [hq]; exact .inr h
      ·exact .inr (htr _ _ _ h hq)
    ·exact h5 y hy hay
theorem next_sorted {α : Type} [DecidableEq α] {r : α → α → Bool} {e all : α} (hir : ∀ a, r a a = false) (htr : ∀ a b c, r a b = true → r b c = true → r a c = true) (htot : ∀ a b, a = b ∨ r a b = true ∨ r b a = true)
  {l N : List α} (hN : N.Pairwise fun a b => r a b = true) (hm : ∀ x, x ∈ l ↔ x ∈ N) (he : ∀ x ∈ l, x ≠ e) {k : Nat} (hk : ∀ j (h : j < N.length), r all N[j] = true ↔ k ≤ j) :
  nextF r e all l = if h : k < N.length then N[k] else e := by
 unfold nextF
 rcases next_fold (all := all) htr htot l e he (.inl rfl) with ⟨h1, _, h3⟩ | ⟨h1, h2, h3, _, h5⟩
 ·rw [h1]
  by_cases h : k < N.length
  ·have := h3 N[k] ((hm _).2 (List.getElem_mem h))
   rw [(hk k h).2 (Nat.le_refl _)] at this
   cases this
  ·rw [dif_neg h]
 ·obtain ⟨v, hv⟩ : ∃ v, v = l.foldl (nextStep r e all) e := ⟨_, rfl⟩
  rw [← hv] at h1 h2 h3 h5 ⊢
  have hvl := h3.resolve_left h1
  obtain ⟨j, hj, hje⟩ := List.getElem_of_mem ((hm _).1 hvl)
  have hkj := (hk j hj).1 (by rw [hje]; exact h2)
  have hkl : k < N.length := Nat.lt_of_le_of_lt hkj hj
  rw [dif_pos hkl]
  rcases h5 N[k] ((hm _).2 (List.getElem_mem hkl)) ((hk k hkl).2 (Nat.le_refl _)) with h | h
  ·exact h.symm
  ·rcases Nat.lt_or_ge k j with hlt | hge
   ·have := List.pairwise_iff_getElem.1 hN k j hkl hj hlt
    rw [hje] at this
    have := htr _ _ _ h this
    rw [hir] at this
    cases this
   ·have : k = j := by omega
    subst this
    exact hje.symm
end Go.Proofs.YtihdnjnhhhafkaaGreatDoor
namespace Go.Proofs.YtihdnjnhhhafkaaGreatDoor
theorem ltN_total (a b : ByteArray) : a = b ∨ ltN a b ∨ ltN b a := by
 rcases Std.le_total (a := bytes a) (b := bytes b) with h | h
 ·rcases Decidable.em (bytes a < bytes b) with q | q
  ·exact .inr (.inl q)
  ·exact .inl (bytes_inj (List.le_antisymm h (List.not_lt.1 q)))
 ·rcases Decidable.em (bytes b < bytes a) with q | q
  ·exact .inr (.inr q)
  ·exact .inl (bytes_inj (List.le_antisymm (List.not_lt.1 q) h))
instance (a b : ByteArray) : Decidable (ltN a b) := by unfold ltN; infer_instance
def lastK {α : Type} (e : α) (N : List α) (k : Nat) : α := if k = 0 then e else N.getD (k - 1) e
theorem next_name {l : List BookD} (hn : ∀ x ∈ namesF l, x ≠ ⟨#[]⟩) {k : Nat} (hk : k ≤ (namesF l).length) :
  nextF (fun x y => decide (ltN x y)) ⟨#[]⟩ (lastK ⟨#[]⟩ (namesF l) k) (l.flatMap fun b => b.map (·.name)) = if h : k < (namesF l).length then (namesF l)[k] else ⟨#[]⟩ := by
 refine next_sorted (N := namesF l) (fun a => by simpa using fun h : ltN a a => ltN_asymm _ _ h h) (fun a b c h1 h2 => by simp only [decide_eq_true_eq] at h1 h2 ⊢; exact ltN_trans _ _ _ h1 h2) (fun a b => by simpa using ltN_total a b)
  ((names_sorted l).imp (fun h => by simpa using h)) (fun x => ?_) (fun x hx => ?_) (fun j hj => ?_)
 ·rw [names_mem]
  simp only [List.mem_flatMap, List.mem_map]
 ·refine hn x (names_mem.2 ?_)
  simpa only [List.mem_flatMap, List.mem_map] using hx
 ·have hs := List.pairwise_iff_getElem.1 (names_sorted l)
  simp only [decide_eq_true_eq]
  unfold lastK
  by_cases h0 : k = 0
  ·subst h0
   simp only [if_true, Nat.zero_le, iff_true]
   have hne := hn _ (List.getElem_mem hj)
   rcases ltN_total ⟨#[]⟩ (namesF l)[j] with h | h | h
   ·exact absurd h.symm hne
   ·exact h
   ·exact absurd h (List.not_lt_nil _)
  ·rw [if_neg h0, List.getD_eq_getElem?_getD, List.getElem?_eq_getElem (show k - 1 < (namesF l).length by omega), Option.getD_some]
   refine ⟨fun h => ?_, fun h => hs _ _ _ hj (by omega)⟩
   rcases Nat.lt_or_ge j k with q | q
   ·rcases Nat.lt_or_ge j (k - 1) with q2 | q2
    ·exact absurd (hs j (k - 1) hj (by omega) q2) (ltN_asymm _ _ h)
    ·have : j = k - 1 := by omega
     subst this
     exact absurd h (ltN_asymm _ _ h)
   ·exact q
def ltO : Option Int → Option Int → Bool
 | some a, some b => decide (a < b)
 | none, some _ => true
 | _, none => false
theorem next_number {l : List TypeD} {lo : Int} (hlo : ∀ x ∈ numbersF l, lo < x) {k : Nat} (hk : k ≤ (numbersF l).length) :
  nextF ltO none (some (lastK lo (numbersF l) k)) ((l.flatMap fun t => t.items.map (·.n)).map some) = (numbersF l)[k]? := by
 have hs := List.pairwise_iff_getElem.1 (numbers_sorted l)
 have := next_sorted (r := ltO) (e := none) (all := some (lastK lo (numbersF l) k)) (l := (l.flatMap fun t => t.items.map (·.n)).map some) (N := (numbersF l).map some) (k := k)
  (fun a => by cases a <;> simp [ltO]) (fun a b c => by cases a <;> cases b <;> cases c <;> simp [ltO] <;> omega) (fun a b => by cases a <;> cases b <;> simp [ltO] <;> omega)
  (by rw [List.pairwise_map]; exact (numbers_sorted l).imp (fun h => by simpa [ltO] using h)) (fun x => by simp [numbers_mem]) (fun x hx => by rintro rfl; simp at hx) (fun j hj => by
   have hj' : j < (numbersF l).length := by simpa using hj
   rw [List.getElem_map]
   show decide (lastK lo (numbersF l) k < (numbersF l)[j]) = true ↔ k ≤ j
   rw [decide_eq_true_eq]
   unfold lastK
   by_cases h0 : k = 0
   ·subst h0
    simp only [if_true, Nat.zero_le, iff_true]
    exact hlo _ (List.getElem_mem hj')
   ·rw [if_neg h0, List.getD_eq_getElem?_getD, List.getElem?_eq_getElem (show k - 1 < (numbersF l).length by omega), Option.getD_some]
    refine ⟨fun h => ?_, fun h => hs _ _ _ hj' (by omega)⟩
    rcases Nat.lt_or_ge j k with q | q
    ·rcases Nat.lt_or_ge j (k - 1) with q2 | q2
     ·have := hs j (k - 1) hj' (by omega) q2
      omega
     ·have : j = k - 1 := by omega
      subst this
      omega
    ·exact q)
 rw [this]
 by_cases h : k < (numbersF l).length
 ·rw [dif_pos (by simpa using h), List.getElem_map, List.getElem?_eq_getElem h]
 ·rw [dif_neg (by simpa using h), List.getElem?_eq_none (by omega)]
end Go.Proofs.YtihdnjnhhhafkaaGreatDoor
