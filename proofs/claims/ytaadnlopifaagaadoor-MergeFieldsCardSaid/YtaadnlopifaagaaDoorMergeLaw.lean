/- Laws of merging, plainly. -/
import Derived.Test.YtaadnlopifaagaaDoorMergePlain
namespace Go.Proofs.YtaadnlopifaagaaDoor

theorem eq_of_lt {α : Type} {r : α → α → Prop} (ha : ∀ a b, r a b → ¬ r b a) {l1 l2 : List α} (h1 : l1.Pairwise r) (h2 : l2.Pairwise r) (hm : ∀ x, x ∈ l1 ↔ x ∈ l2) : l1 = l2 := by
  have nd : ∀ l : List α, l.Pairwise r → l.Nodup := fun l h => h.imp (fun {a b} hab e => by subst e; exact ha _ _ hab hab)
  exact List.Perm.eq_of_pairwise (le := r) (fun a b _ _ h h' => absurd h' (ha a b h)) h1 h2 ((List.perm_ext_iff_of_nodup (nd _ h1) (nd _ h2)).2 hm)
theorem find_key {α κ : Type} [DecidableEq κ] {key : α → κ} : ∀ {l : List α} {t : α}, t ∈ l → (∀ u ∈ l, key u = key t → u = t) → l.find? (fun u => decide (key u = key t)) = some t
  | [], _, h, _ => by cases h
  | a :: l, t, h, hu => by
    rw [List.find?_cons]
    by_cases e : key a = key t
    · have := hu a (by simp) e
      subst this; simp
    · simp only [e, decide_false]
      refine find_key ?_ fun u h' => hu u (by simp [h'])
      rcases List.mem_cons.1 h with rfl | h
      · exact absurd rfl e
      · exact h
theorem find_flat {β κ : Type} [DecidableEq κ] {key : β → κ} {F : κ → List β} {N : List κ} (hF : ∀ n ∈ N, ∀ u ∈ F n, key u = n) {n : κ} (hn : n ∈ N) (hl : (F n).length ≤ 1) :
    (N.flatMap F).find? (fun u => decide (key u = n)) = (F n).head? := by
  have hmem : ∀ u ∈ N.flatMap F, key u = n → u ∈ F n := by
    intro u hu e
    obtain ⟨m, hm, hum⟩ := List.mem_flatMap.1 hu
    have := hF m hm u hum
    rw [e] at this; subst this; exact hum
  cases hFn : F n with
  | nil =>
    rw [List.head?_nil, List.find?_eq_none]
    intro u hu he
    have := hmem u hu (by simpa using he)
    rw [hFn] at this; cases this
  | cons t rest =>
    rw [hFn] at hl
    have hr : rest = [] := List.eq_nil_of_length_eq_zero (by rw [List.length_cons] at hl; omega)
    subst hr
    have ht : t ∈ F n := by rw [hFn]; simp
    have hk := hF n hn t ht
    have := find_key (key := key) (l := N.flatMap F) (t := t) (List.mem_flatMap.2 ⟨n, hn, ht⟩) (fun u hu e => by
      have := hmem u hu (e.trans hk)
      rw [hFn] at this; simpa using this)
    rw [hk] at this
    rw [this]; rfl
theorem find_flat_none {β κ : Type} [DecidableEq κ] {key : β → κ} {F : κ → List β} {N : List κ} (hF : ∀ n ∈ N, ∀ u ∈ F n, key u = n) {n : κ} (hn : n ∉ N) :
    (N.flatMap F).find? (fun u => decide (key u = n)) = none := by
  rw [List.find?_eq_none]
  intro u hu he
  obtain ⟨m, hm, hum⟩ := List.mem_flatMap.1 hu
  have := hF m hm u hum
  have he' : key u = n := by simpa using he
  rw [he'] at this; subst this; exact hn hm

/-! Texts in order. -/
theorem less_lt : ∀ (x y : List UInt8), Op.bytesLess x y = decide (x < y)
  | [], [] => by simp [Op.bytesLess]
  | _ :: _, [] => by simp [Op.bytesLess]
  | [], _ :: _ => by simp [Op.bytesLess]
  | a :: x, b :: y => by
    rw [Op.bytesLess, less_lt x y]
    simp only [List.cons_lt_cons_iff]
    by_cases h1 : a < b <;> by_cases h2 : a = b <;> by_cases h3 : x < y <;> simp [h1, h2, h3]
def ltN (a b : ByteArray) : Prop := bytes a < bytes b
theorem ltS_iff (a b : ByteArray) : ltS a b ↔ ltN a b := by
  unfold ltS ltN
  rw [less_lt, ByteArray.toList_eq, ByteArray.toList_eq, decide_eq_true_iff]
theorem ltN_asymm (a b : ByteArray) (h : ltN a b) : ¬ ltN b a := fun h' => List.lt_irrefl _ (List.lt_trans h h')
theorem ltN_trans (a b c : ByteArray) (h : ltN a b) (h' : ltN b c) : ltN a c := List.lt_trans h h'
theorem bytes_inj {a b : ByteArray} (h : bytes a = bytes b) : a = b := (ba_of h).trans (ba_of rfl).symm
theorem hasS_iff {l : List ByteArray} {x : ByteArray} : hasS l x = true ↔ x ∈ l := by unfold hasS; simp
theorem once_fold : ∀ (l out : List ByteArray), out.Nodup → (l.foldl addS out).Nodup ∧ ∀ x, x ∈ l.foldl addS out ↔ x ∈ out ∨ x ∈ l
  | [], out, h => ⟨h, by simp⟩
  | y :: l, out, h => by
    have hy : (addS out y).Nodup ∧ ∀ x, x ∈ addS out y ↔ x ∈ out ∨ x = y := by
      unfold addS
      by_cases hh : hasS out y = true
      · rw [if_pos hh]
        refine ⟨h, fun x => ⟨.inl, ?_⟩⟩
        rintro (h | rfl)
        · exact h
        · exact hasS_iff.1 hh
      · rw [if_neg hh]
        refine ⟨?_, by simp⟩
        rw [List.nodup_append]
        refine ⟨h, by simp, ?_⟩
        intro a ha b hb e
        have : b = y := by simpa using hb
        subst this; subst e
        exact hh (hasS_iff.2 ha)
    rw [List.foldl_cons]
    have := once_fold l (addS out y) hy.1
    refine ⟨this.1, fun x => ?_⟩
    rw [this.2, hy.2, List.mem_cons, or_assoc]
theorem once_nodup (l : List ByteArray) : (onceS l).Nodup := (once_fold l [] .nil).1
theorem once_mem {l : List ByteArray} {x : ByteArray} : x ∈ onceS l ↔ x ∈ l := by
  have := (once_fold l [] .nil).2 x
  simpa [onceS] using this
theorem sortS_mem {l : List ByteArray} {x : ByteArray} : x ∈ sortS l ↔ x ∈ l := by
  unfold sortS
  constructor
  · intro h
    obtain ⟨b, hb, rfl⟩ := List.mem_map.1 h
    rw [(List.mergeSort_perm _ _).mem_iff] at hb
    obtain ⟨y, hy, rfl⟩ := List.mem_map.1 hb
    exact hy
  · intro h
    refine List.mem_map.2 ⟨bytes x, ?_, rfl⟩
    rw [(List.mergeSort_perm _ _).mem_iff]
    exact List.mem_map.2 ⟨x, h, rfl⟩
theorem sortS_sorted {l : List ByteArray} (h : l.Nodup) : (sortS l).Pairwise ltN := by
  unfold sortS
  rw [List.pairwise_map]
  have h1 := List.pairwise_mergeSort (le := fun x y : List UInt8 => decide (x ≤ y)) (fun a b c h1 h2 => by
    simp only [decide_eq_true_eq] at h1 h2 ⊢; exact List.le_trans h1 h2) (fun a b => by
    simp only [Bool.or_eq_true, decide_eq_true_eq]; exact List.le_total a b) (l.map bytes)
  have h2 : ((l.map bytes).mergeSort fun x y => decide (x ≤ y)).Nodup := by
    rw [(List.mergeSort_perm _ _).nodup_iff]
    refine List.pairwise_map.2 (h.imp fun hne e => hne (bytes_inj e))
  refine (h1.and h2).imp ?_
  rintro a b ⟨hab, hne⟩
  simp only [decide_eq_true_eq] at hab
  show a < b
  by_cases hba : b ≤ a
  · exact absurd (List.le_antisymm hab hba) hne
  · exact List.not_le.1 hba
theorem names_mem {l : List BookD} {n : ByteArray} : n ∈ namesF l ↔ ∃ b ∈ l, ∃ t ∈ b, t.name = n := by
  unfold namesF
  rw [sortS_mem, once_mem, List.mem_flatMap]
  simp only [List.mem_map]
theorem names_sorted (l : List BookD) : (namesF l).Pairwise ltN := sortS_sorted (once_nodup _)

/-! Numbers in order. -/
theorem compact_sorted {zs : List Int} (h : zs.Pairwise (· ≤ ·)) : (Lib.compact zs).Pairwise (· < ·) ∧ ∀ x, x ∈ Lib.compact zs ↔ x ∈ zs := by
  have hle : ∀ i j, i ≤ j → j < zs.length → zs.toArray[i]! ≤ zs.toArray[j]! := by
    intro i j hij hj
    have e : ∀ k (hk : k < zs.length), zs.toArray[k]! = zs[k] := fun k hk => by
      rw [getElem!_pos zs.toArray k (by simpa using hk)]; simp
    rw [e i (by omega), e j hj]
    rcases Nat.lt_or_ge i j with h' | h'
    · exact List.pairwise_iff_getElem.1 h i j (by omega) hj h'
    · have : i = j := by omega
      subst this; exact Int.le_refl _
  refine ⟨?_, fun x => ?_⟩
  · unfold Lib.compact Lib.compactUpTo
    rw [List.pairwise_map]
    have hr : (List.range zs.length).Pairwise (· < ·) := List.pairwise_lt_range
    refine (hr.filter (Lib.keeps zs.toArray)).imp_of_mem ?_
    intro i j _ hj hij
    have hj' := List.mem_filter.1 hj
    have hjl : j < zs.length := List.mem_range.1 hj'.1
    have hk : j = 0 ∨ zs.toArray[j]! ≠ zs.toArray[j - 1]! := by simpa [Lib.keeps] using hj'.2
    have h1 := hle i (j - 1) (by omega) (by omega)
    have h2 := hle (j - 1) j (by omega) hjl
    rcases hk with hk | hk
    · omega
    · omega
  · unfold Lib.compact Lib.compactUpTo
    have e : ∀ k (hk : k < zs.length), zs.toArray[k]! = zs[k] := fun k hk => by
      rw [getElem!_pos zs.toArray k (by simpa using hk)]; simp
    simp only [List.mem_map, List.mem_filter, List.mem_range]
    constructor
    · rintro ⟨j, ⟨hj, _⟩, rfl⟩
      rw [e j hj]; exact List.getElem_mem hj
    · intro hx
      obtain ⟨j, hj, rfl⟩ := List.getElem_of_mem hx
      have : ∀ j, j < zs.length → ∃ i, (i < zs.length ∧ Lib.keeps zs.toArray i = true) ∧ zs.toArray[i]! = zs.toArray[j]! := by
        intro j
        induction j with
        | zero => intro h0; exact ⟨0, ⟨h0, by simp [Lib.keeps]⟩, rfl⟩
        | succ j ih =>
          intro hj
          by_cases hk : Lib.keeps zs.toArray (j + 1) = true
          · exact ⟨j + 1, ⟨hj, hk⟩, rfl⟩
          · obtain ⟨i, hi, he⟩ := ih (by omega)
            refine ⟨i, hi, he.trans ?_⟩
            simp [Lib.keeps] at hk
            simpa using hk.symm
      obtain ⟨i, hi, he⟩ := this j hj
      exact ⟨i, hi, by rw [he, e j hj]⟩
theorem sortI_sorted (l : List Int) : (sortI l).Pairwise (· ≤ ·) := by
  have h1 := List.pairwise_mergeSort (le := fun x y : Int => decide (x ≤ y)) (fun a b c h1 h2 => by
    simp only [decide_eq_true_eq] at h1 h2 ⊢; omega) (fun a b => by
    simp only [Bool.or_eq_true, decide_eq_true_eq]; omega) l
  exact h1.imp fun h => by simpa using h
theorem sortI_mem {l : List Int} {x : Int} : x ∈ sortI l ↔ x ∈ l := (List.mergeSort_perm _ _).mem_iff
theorem numbers_sorted (l : List TypeD) : (numbersF l).Pairwise (· < ·) := (compact_sorted (sortI_sorted _)).1
theorem numbers_mem {l : List TypeD} {n : Int} : n ∈ numbersF l ↔ ∃ t ∈ l, ∃ x ∈ t.items, x.n = n := by
  unfold numbersF
  rw [(compact_sorted (sortI_sorted _)).2, sortI_mem, List.mem_flatMap]
  simp only [List.mem_map]
theorem ids_mem {i : Int} : i ∈ idsL ↔ 1 ≤ i ∧ i ≤ 30 := by
  unfold idsL
  simp only [List.mem_map, List.mem_range]
  constructor
  · rintro ⟨k, hk, rfl⟩; omega
  · intro h; exact ⟨(i - 1).toNat, by omega, by omega⟩
theorem ids_sorted : idsL.Pairwise (· < ·) := by
  unfold idsL
  rw [List.pairwise_map]
  exact List.pairwise_lt_range.imp fun h => by omega

/-! Three states. -/
theorem three_comm (w a b : StateD) : threeF w a b = threeF w b a := by
  unfold threeF
  by_cases h1 : a = b
  · subst h1; rfl
  · have h1' : ¬ b = a := fun h => h1 h.symm
    by_cases h2 : b = w
    · subst h2
      simp [h1, h1']
    · by_cases h3 : a = w
      · subst h3
        simp [h1, h1']
      · simp [h1, h1', h2, h3]
theorem three_left (w a : StateD) : threeF w a w = (a, true) := by unfold threeF; rw [if_pos (.inr rfl)]
theorem three_both (w a : StateD) : threeF w a a = (a, true) := by unfold threeF; rw [if_pos (.inl rfl)]
theorem three_right (w b : StateD) : threeF w w b = (b, true) := by rw [three_comm]; exact three_left w b
theorem three_one (w a b : StateD) : (threeF w a b).1 = w ∨ (threeF w a b).1 = a ∨ (threeF w a b).1 = b := by
  unfold threeF
  split
  · exact .inr (.inl rfl)
  · split
    · exact .inr (.inr rfl)
    · exact .inl rfl
theorem numbers_comm (x y z : TypeD) : numbersF [x, y, z] = numbersF [x, z, y] :=
  eq_of_lt (r := fun a b : Int => a < b) (fun a b h h' => by omega) (numbers_sorted _) (numbers_sorted _) (fun n => by
    rw [numbers_mem, numbers_mem]
    simp only [List.mem_cons, List.not_mem_nil, or_false, exists_eq_or_imp, exists_eq_left]
    rw [or_comm (b := ∃ x_1, x_1 ∈ z.items ∧ x_1.n = n)])
theorem names_comm (x y z : BookD) : namesF [x, y, z] = namesF [x, z, y] :=
  eq_of_lt (r := ltN) ltN_asymm (names_sorted _) (names_sorted _) (fun n => by
    rw [names_mem, names_mem]
    simp only [List.mem_cons, List.not_mem_nil, or_false, exists_eq_or_imp, exists_eq_left]
    rw [or_comm (b := ∃ x_1, x_1 ∈ z ∧ x_1.name = n)])
theorem fT_comm (x y z : TypeD) : fT x y z = fT x z y := funext fun _ => three_comm _ _ _
theorem gT_comm (x y z : TypeD) : gT x y z = gT x z y := funext fun _ => three_comm _ _ _
theorem iT_comm (x y z : TypeD) : iT x y z = iT x z y := funext fun _ => three_comm _ _ _
theorem badId_comm (x y z : TypeD) : badId x y z = badId x z y := by unfold badId; rw [fT_comm, gT_comm]
theorem typesT_comm (x y z : TypeD) (n : ByteArray) : typesT x y z n = typesT x z y n := by
  have e1 : fieldsAt x y z = fieldsAt x z y := by unfold fieldsAt; rw [badId_comm, fT_comm]
  have e2 : goneAt x y z = goneAt x z y := by unfold goneAt; rw [badId_comm, fT_comm, gT_comm]
  have e3 : itemsAt x y z = itemsAt x z y := by unfold itemsAt; rw [iT_comm]
  unfold typesT
  rw [e1, e2, e3, numbers_comm]
theorem typesL_comm (x y z : TypeD) (n : ByteArray) : typesL x y z n = typesL x z y n := by
  have e1 : badAt x y z n = badAt x z y n := by unfold badAt; rw [badId_comm]
  have e2 : badIt x y z n = badIt x z y n := by unfold badIt; rw [iT_comm]
  unfold typesL
  rw [e1, e2, numbers_comm]
theorem nameM_comm (w a b : BookD) : nameM w a b = nameM w b a := by
  funext n
  have e1 : kT w a b n = kT w b a n := three_comm _ _ _
  have e2 : tyT w a b n = tyT w b a n := by unfold tyT; rw [e1, typesT_comm]
  have e3 : tyL w a b n = tyL w b a n := typesL_comm _ _ _ _
  unfold nameM
  rw [e1, e2, e3]
/-- It does not matter whose is which. -/
theorem books_comm (w a b : BookD) : booksM w a b = booksM w b a := by
  have e1 : outM w a b = outM w b a := by unfold outM; rw [nameM_comm, names_comm]
  have e2 : badM w a b = badM w b a := by unfold badM; rw [nameM_comm, names_comm]
  have e3 : (goodF w ≠ 0 ∨ goodF a ≠ 0 ∨ goodF b ≠ 0) = (goodF w ≠ 0 ∨ goodF b ≠ 0 ∨ goodF a ≠ 0) := by
    rw [or_comm (a := goodF a ≠ 0)]
  unfold booksM
  rw [e1, e2]
  simp only [e3]
theorem good_code {b : BookD} : goodF b = 0 ∨ goodF b = 1 ∨ goodF b = 7 := by
  unfold goodF
  split
  · simp
  · split
    · simp
    · split <;> simp
/-- There are flaws just if it is a conflict. -/
theorem books_flaws (w a b : BookD) : ((booksM w a b).2.2 = 9) ↔ 0 < (booksM w a b).2.1.length := by
  unfold booksM
  split
  · simp
  · split
    · rename_i h; simpa using h
    · split
      · have := good_code (b := outM w a b)
        simp; omega
      · simp
end Go.Proofs.YtaadnlopifaagaaDoor
