/- Plain laws of the document's own flaws: what is found by going on till nothing is new is what is found by pairs. -/
import Derived.Test.YtfidfakcbjoilaaGreatDoorCompatLawK
import Derived.Test.YtfidfakcbjoilaaGreatDoorFlawOrd
import Derived.Test.YtfidfakcbjoilaaGreatDoorMergeRows
import Derived.Test.YtfidfakcbjoilaaGreatDoorSortInts
import Derived.Test.YtfidfakcbjoilaaGreatDoorRefGood
set_option linter.all false
namespace Go.Proofs.YtfidfakcbjoilaaGreatDoor
def meansR (r : BookD) (g : FieldD) (n : Int) : Bool := (decide (g.kind = 1) && (decide (n = 0) || decide (n = 1))) || (decide (g.kind = 4) && meansF (typeOf r g.type) n)
def badR (w r : BookD) (f g : FieldD) : Bool := (typeOf w f.type).items.foldl (fun b x => b || !meansR r g x.n) (if f.kind = 1 then !meansR r g 0 || !meansR r g 1 else decide (f.kind = 2))
def readsF (w r : BookD) (f g : FieldD) : List Int := ((if kindOf f.kind ≠ kindOf g.kind then [1] else []) ++ (if f.rule = 3 ∧ g.rule ≠ 3 then [2] else [])) ++ (if kindOf f.kind ≠ 0 ∨ kindOf g.kind ≠ 0 ∨ g.kind = 2 then [] else if badR w r f g = true then [3] else [])
theorem foldl_or {α : Type} (p : α → Bool) : ∀ (l : List α) (b : Bool), l.foldl (fun b x => b || p x) b = (b || l.any p)
 | [], b => by simp
 | x :: l, b => by rw [List.foldl_cons, foldl_or p l, List.any_cons, Bool.or_assoc]
theorem empty_of {s : ByteArray} (h : s.size = 0) : s = ⟨#[]⟩ := by
 obtain ⟨⟨l⟩⟩ := s
 have : l = [] := List.eq_nil_of_length_eq_zero (by simpa [ByteArray.size] using h)
 rw [this]
theorem typeOf_empty {b : BookD} (hg : goodF b = 0) : (typeOf b ⟨#[]⟩).items = [] := by
 unfold typeOf
 cases h : findT b ⟨#[]⟩ with
 | none => rfl
 | some t =>
  obtain ⟨h1, h2⟩ := findT_some h
  obtain ⟨_, h3, _⟩ := good_parts hg
  obtain ⟨i, hi, rfl⟩ := List.getElem_of_mem h1
  have := (h3 i hi).1
  rw [h2] at this
  exact absurd this (by decide)
theorem whys_mem {w r : BookD} {f g : FieldD} {y : Int} : y ∈ whysF w r f g ↔ y ∈ whyA w r f g ∨ y ∈ whyB f g := by
 unfold whysF
 rw [(sortS_perm _).mem_iff, List.mem_append]
theorem lacks_bad {w r : BookD} (hw : goodF w = 0) (hr : goodF r = 0) {f g : FieldD} (hf : fieldP w f) (hg : fieldP r g) (h0 : kindOf f.kind = 0) (h1 : kindOf g.kind = 0) : (lacksF w r f g).isSome = true ↔ g.kind ≠ 2 ∧ badR w r f g = true := by
 have hsome : (lacksF w r f g).isSome = true ↔ ∃ n ∈ numsOf w f, okN r g n = false := by
  unfold lacksF
  rw [List.find?_isSome]
  simp
 rw [hsome]
 have hg1 := (kindOf_zero hg.2.2.2.1 hg.2.2.2.2.1).1 h1
 have hf1 := (kindOf_zero hf.2.2.2.1 hf.2.2.2.2.1).1 h0
 by_cases h2 : g.kind = 2
 ·constructor
  ·rintro ⟨n, _, hn⟩
   unfold okN at hn
   rw [if_neg (by omega), if_neg (by omega)] at hn
   cases hn
  ·rintro ⟨h, _⟩; exact absurd h2 h
 ·have hok : ∀ n, okN r g n = meansR r g n := by
   intro n
   unfold okN meansR
   rcases hg1 with e | e | e
   ·simp [e]
   ·exact absurd e h2
   ·simp [e]
  have hbad : badR w r f g = true ↔ ((f.kind = 1 ∧ (meansR r g 0 = false ∨ meansR r g 1 = false)) ∨ f.kind = 2 ∨ ∃ x ∈ (typeOf w f.type).items, meansR r g x.n = false) := by
   unfold badR
   rw [foldl_or]
   by_cases e : f.kind = 1
   ·simp [e]
   ·simp [e]
  rw [hbad]
  simp only [h2, ne_eq, not_false_eq_true, true_and]
  rcases hf1 with e | e | e
  ·have ht : (typeOf w f.type).items = [] := by rw [empty_of ((hf.2.2.2.2.2.2.2).1 (by omega))]; exact typeOf_empty hw
   unfold numsOf
   rw [if_pos e, ht]
   simp [hok, e]
  ·unfold numsOf
   rw [if_neg (by omega), if_neg (by omega)]
   constructor
   ·intro _; exact .inr (.inl e)
   ·intro _
    rcases hg1 with e2 | e2 | e2
    ·exact ⟨2, by simp, by rw [hok]; unfold meansR; simp [e2]⟩
    ·exact absurd e2 h2
    ·obtain ⟨t, -, ht, -, he⟩ := field_enum hr hg e2
     refine Classical.byContradiction fun hno => ?_
     have hin : ∀ n ∈ ([0, 1, 2, 3, 4, 5, 6] : List Int), n ∈ (typeOf r g.type).items.map (·.n) := by
      intro n hn
      have : okN r g n = true := by
       cases hc : okN r g n with
       | true => rfl
       | false => exact absurd ⟨n, hn, hc⟩ hno
      unfold okN at this
      rw [if_neg (by omega), if_pos e2] at this
      exact means_in.1 this
     have := nodup_le [0, 1, 2, 3, 4, 5, 6] _ (by decide) hin
     rw [List.length_map, ht] at this
     have h6 := he.2.2.1
     simp only [List.length_cons, List.length_nil] at this
     omega
  ·unfold numsOf
   rw [if_neg (by omega), if_pos e]
   constructor
   ·rintro ⟨n, hn, hk⟩
    obtain ⟨x, hx, rfl⟩ := List.mem_map.1 hn
    exact .inr (.inr ⟨x, hx, by rw [← hok]; exact hk⟩)
   ·rintro (⟨h, _⟩ | h | ⟨x, hx, hk⟩)
    ·omega
    ·omega
    ·exact ⟨x.n, List.mem_map.2 ⟨x, hx, rfl⟩, by rw [hok]; exact hk⟩
theorem reads_whys {w r : BookD} (hw : goodF w = 0) (hr : goodF r = 0) {f g : FieldD} (hf : fieldP w f) (hg : fieldP r g) {y : Int} : y ∈ readsF w r f g ↔ y ∈ whysF w r f g := by
 rw [whys_mem]
 unfold readsF whyA whyB
 by_cases hk : kindOf f.kind = kindOf g.kind
 ·by_cases h0 : kindOf f.kind = 0
  ·have h1 : kindOf g.kind = 0 := by rw [← hk]; exact h0
   have hl := lacks_bad hw hr hf hg h0 h1
   by_cases h2 : g.kind = 2
   ·have : ¬ (lacksF w r f g).isSome = true := fun h => (hl.1 h).1 h2
    simp [hk, h1, h2, this]
   ·by_cases hb : badR w r f g = true
    ·have := hl.2 ⟨h2, hb⟩
     simp [hk, h1, h2, hb, this]
     exact or_comm
    ·have : ¬ (lacksF w r f g).isSome = true := fun h => hb (hl.1 h).2
     simp [hk, h1, h2, hb, this]
  ·have h1 : ¬ kindOf g.kind = 0 := by rw [← hk]; exact h0
   simp [hk, h1]
 ·have : kindOf f.kind ≠ 0 ∨ kindOf g.kind ≠ 0 := by
   by_cases h0 : kindOf f.kind = 0
   ·exact .inr fun h => hk (by rw [h0, h])
   ·exact .inl h0
  have h3 : kindOf f.kind ≠ 0 ∨ kindOf g.kind ≠ 0 ∨ g.kind = 2 := by
   rcases this with h | h
   ·exact .inl h
   ·exact .inr (.inl h)
  simp only [ne_eq, hk, not_false_eq_true, if_true, h3, List.append_nil, List.mem_append]
def KeyR := ByteArray × ByteArray
def DoneF (w r : BookD) (met : List (ByteArray × ByteArray)) (found : List FlawD) (a b : TypeD) (f : FieldD) : Prop := ∀ g, fieldOf b f.id = some g → (∀ y ∈ readsF w r f g, (⟨a.name, f.id, y⟩ : FlawD) ∈ found) ∧ (f.kind = 5 → g.kind = 5 → (f.type, g.type) ∈ met)
structure RunR (w r : BookD) (name : ByteArray) (n0 : Nat) (S : TypeD → TypeD → FieldD → Prop) (met : List (ByteArray × ByteArray)) (found : List FlawD) (more : Bool) : Prop where
 nodup : met.Nodup
 start : (name, name) ∈ met
 reach : ∀ q ∈ met, ∃ p ∈ pairsF w r name, keyP p = q
 flaws : ∀ x ∈ found, x ∈ flawsL w r name
 len : n0 ≤ met.length
 grew : more = true → n0 < met.length
 seen : more = false → ∀ a b f, S a b f → (a.name, b.name) ∈ met → DoneF w r met found a b f
theorem DoneF.mono {w r : BookD} {met : List (ByteArray × ByteArray)} {found found' : List FlawD} {a b : TypeD} {f : FieldD} (h : DoneF w r met found a b f) (hs : ∀ x ∈ found, x ∈ found') : DoneF w r met found' a b f := fun g hg => ⟨fun y hy => hs _ ((h g hg).1 y hy), (h g hg).2⟩
section
variable {w r : BookD} {name : ByteArray} {n0 : Nat} {S : TypeD → TypeD → FieldD → Prop} {met : List (ByteArray × ByteArray)} {found : List FlawD} {more : Bool}
theorem RunR.weaken (h : RunR w r name n0 S met found more) {S' : TypeD → TypeD → FieldD → Prop} (hs : ∀ a b f, S' a b f → S a b f) : RunR w r name n0 S' met found more :=
 ⟨h.nodup, h.start, h.reach, h.flaws, h.len, h.grew, fun hm a b f hS => h.seen hm a b f (hs a b f hS)⟩
theorem RunR.fresh (h : RunR w r name n0 S met found more) : RunR w r name met.length (fun _ _ _ => False) met found false :=
 ⟨h.nodup, h.start, h.reach, h.flaws, Nat.le_refl _, fun h => by (cases h), fun _ _ _ _ h => h.elim⟩
theorem RunR.more_ (h : RunR w r name n0 S met found more) {S' : TypeD → TypeD → FieldD → Prop} (hs : more = false → ∀ a b f, S' a b f → (a.name, b.name) ∈ met → S a b f ∨ DoneF w r met found a b f) : RunR w r name n0 S' met found more :=
 ⟨h.nodup, h.start, h.reach, h.flaws, h.len, h.grew, fun hm a b f hS hin => (hs hm a b f hS hin).elim (fun h' => h.seen hm a b f h' hin) id⟩
theorem flaw_in {p : PairD} (hp : p ∈ pairsF w r name) {f g : FieldD} (hf : f ∈ (typeOf w p.w).fields) (hg : fieldOf (typeOf r p.r) f.id = some g) {y : Int} (hy : y ∈ whysF w r f g) : (⟨p.w, f.id, y⟩ : FlawD) ∈ flawsL w r name := by
 unfold flawsL
 refine List.mem_flatMap.2 ⟨p, hp, List.mem_flatMap.2 ⟨f, hf, ?_⟩⟩
 unfold flawsOf
 rw [hg]
 exact List.mem_map.2 ⟨y, hy, rfl⟩
theorem typeOf_name {b : BookD} (hg : goodF b = 0) {t : TypeD} (ht : t ∈ b) : typeOf b t.name = t ∧ (findT b t.name).isSome = true := by
 obtain ⟨_, h3, _⟩ := good_parts hg
 obtain ⟨i, hi, rfl⟩ := List.getElem_of_mem ht
 have hd : ∀ j (hj : j < i), b[j].name ≠ b[i].name := by
  intro j hj e
  have hs : ∀ (d : Nat) (h : j + d + 1 ≤ i), ltS b[j].name (b[j + d + 1]'(by omega)).name := by
   intro d
   induction d with
   | zero => intro h; exact (h3 (j + 1) (by omega)).2.1 (by omega)
   | succ d ih => intro h; exact ltS_trans (ih (by omega)) ((h3 (j + (d + 1) + 1) (by omega)).2.1 (by omega))
  have := hs (i - j - 1) (by omega)
  have e2 : j + (i - j - 1) + 1 = i := by omega
  simp only [e2] at this
  rw [e] at this
  exact ltS_irrefl _ this
 have hf : findT b b[i].name = some b[i] := by
  unfold findT
  rw [List.find?_eq_some_iff_getElem]
  exact ⟨by simp, i, hi, rfl, fun j hj => by simpa using hd j hj⟩
 unfold typeOf
 rw [hf]
 exact ⟨rfl, rfl⟩
theorem field_at {b : BookD} (hg : goodF b = 0) {t : TypeD} (ht : t ∈ b) {f : FieldD} (hf : f ∈ t.fields) : fieldP b f := by
 cases he : t.enum with
 | true =>
  have := (good_enum hg ht he).2.2.2.1
  rw [List.eq_nil_of_length_eq_zero this] at hf
  cases hf
 | false => exact msg_field (good_msg hg ht he) hf
theorem RunR.found_ (hw : goodF w = 0) (hr : goodF r = 0) (h : RunR w r name n0 S met found more) {a b : TypeD} (ha : a ∈ w) (hb : b ∈ r) (hin : (a.name, b.name) ∈ met) {f g : FieldD} (hf : f ∈ a.fields) (hg : fieldOf b f.id = some g) {y : Int} (hy : y ∈ readsF w r f g) {found' : List FlawD} (h1 : ∀ x ∈ found, x ∈ found') (h2 : ∀ x ∈ found', x ∈ found ∨ x = ⟨a.name, f.id, y⟩) :
  RunR w r name n0 S met found' more := by
 refine ⟨h.nodup, h.start, h.reach, fun x hx => ?_, h.len, h.grew, fun hm a b f hS hin => (h.seen hm a b f hS hin).mono h1⟩
 rcases h2 x hx with hx | rfl
 ·exact h.flaws x hx
 ·obtain ⟨p, hp, hk⟩ := h.reach _ hin
  have e1 : p.w = a.name := congrArg Prod.fst hk
  have e2 : p.r = b.name := congrArg Prod.snd hk
  have t1 := (typeOf_name hw ha).1
  have t2 := (typeOf_name hr hb).1
  rw [← e1]
  refine flaw_in hp (by rw [e1, t1]; exact hf) (by rw [e2, t2]; exact hg) ?_
  exact (reads_whys hw hr (field_at hw ha hf) (field_at hr hb (fieldOf_in hg))).1 hy
theorem RunR.met_ (hn : bothF w r name = 0) (h : RunR w r name n0 S met found more) {a b : TypeD} (ha : a ∈ w) (hb : b ∈ r) (hin : (a.name, b.name) ∈ met) {f g : FieldD} (hf : f ∈ a.fields) (hg : fieldOf b f.id = some g) (h5 : f.kind = 5) (h6 : g.kind = 5) (hno : (f.type, g.type) ∉ met) (S' : TypeD → TypeD → FieldD → Prop) :
  RunR w r name n0 S' ((f.type, g.type) :: met) found true := by
 obtain ⟨hw, hr, hn1, hn2⟩ := bothF_ok hn
 refine ⟨List.nodup_cons.2 ⟨hno, h.nodup⟩, List.mem_cons_of_mem _ h.start, fun q hq => ?_, h.flaws, by have := h.len; rw [List.length_cons]; omega, fun _ => by have := h.len; rw [List.length_cons]; omega, fun h => by cases h⟩
 rcases List.mem_cons.1 hq with rfl | hq
 ·obtain ⟨p, hp, hk⟩ := h.reach _ hin
  have e1 : p.w = a.name := congrArg Prod.fst hk
  have e2 : p.r = b.name := congrArg Prod.snd hk
  have hc := pairsGo_closed hw hr 18 0 _ (pairs_start hn1 hn2) (by omega) (fun j hj => by omega) p hp
  have := hc f (by rw [e1, (typeOf_name hw ha).1]; exact hf) g (by rw [e2, (typeOf_name hr hb).1]; exact hg) h5 h6
  exact List.mem_map.1 (hasP_mem.1 this)
 ·exact h.reach q hq
theorem RunR.few (hn : bothF w r name = 0) (h : RunR w r name n0 S met found more) : met.length ≤ 16 := by
 obtain ⟨hw, hr, hn1, hn2⟩ := bothF_ok hn
 have hok : PairsOk w r (pairsF w r name) := pairsGo_ok hw hr 18 0 _ (pairs_start hn1 hn2)
 have h1 := nodup_le met ((pairsF w r name).map keyP) h.nodup (fun q hq => by obtain ⟨p, hp, e⟩ := h.reach q hq; exact List.mem_map.2 ⟨p, hp, e⟩)
 rw [List.length_map] at h1
 have := sixteen hw hr hok
 omega
theorem RunR.all (hn : bothF w r name = 0) (h : RunR w r name n0 (fun a b f => a ∈ w ∧ b ∈ r ∧ f ∈ a.fields) met found false) : ∀ x, x ∈ found ↔ x ∈ flawsL w r name := by
 obtain ⟨hw, hr, hn1, hn2⟩ := bothF_ok hn
 have hok : PairsOk w r (pairsF w r name) := pairsGo_ok hw hr 18 0 _ (pairs_start hn1 hn2)
 have hpath : PathOk w r (pairsF w r name) := path_go 18 0 _ (by
  intro i p hp
  cases i with
  | zero =>
   simp only [List.getElem?_cons_zero, Option.some.injEq] at hp
   subst hp
   exact .inl ⟨rfl, (show (-1 : Int) < 0 by decide)⟩
  | succ i => simp at hp)
 have h0 : (pairsF w r name)[0]? = some ⟨name, name, -1, 0⟩ := go_keeps 18 0 _ rfl
 have hmet : ∀ (i : Nat) (p : PairD), (pairsF w r name)[i]? = some p → (p.w, p.r) ∈ met := by
  intro i
  induction i using Nat.strongRecOn with
  | _ i ih =>
   intro p hp
   rcases hpath i p hp with ⟨rfl, _⟩ | ⟨j, q, hj, _, hq, f, g, hf, hid, h5, ht, hg, h6, ht2⟩
   ·rw [h0] at hp
    obtain rfl := Option.some.inj hp
    exact h.start
   ·have hqm := ih j hj q hq
    have hqin := hok.2 q (List.mem_of_getElem? hq)
    have hqw := typeOf_mem hqin.1
    have hqr := typeOf_mem hqin.2
    have n1 := (findT_some (show findT w q.w = some (typeOf w q.w) by obtain ⟨t, e⟩ := Option.isSome_iff_exists.1 hqin.1; rw [e, typeOf_self e])).2
    have n2 := (findT_some (show findT r q.r = some (typeOf r q.r) by obtain ⟨t, e⟩ := Option.isSome_iff_exists.1 hqin.2; rw [e, typeOf_self e])).2
    have := (h.seen rfl (typeOf w q.w) (typeOf r q.r) f ⟨hqw, hqr, hf⟩ (by rw [n1, n2]; exact hqm) g hg).2 h5 h6
    rw [ht, ht2] at this
    exact this
 intro x
 refine ⟨h.flaws x, fun hx => ?_⟩
 unfold flawsL at hx
 obtain ⟨p, hp, hx⟩ := List.mem_flatMap.1 hx
 obtain ⟨f, hf, hx⟩ := List.mem_flatMap.1 hx
 unfold flawsOf at hx
 split at hx
 ·cases hx
 ·rename_i g hg
  obtain ⟨y, hy, rfl⟩ := List.mem_map.1 hx
  obtain ⟨i, hi⟩ := List.getElem?_of_mem hp
  have hqin := hok.2 p hp
  have hqw := typeOf_mem hqin.1
  have hqr := typeOf_mem hqin.2
  have n1 := (findT_some (show findT w p.w = some (typeOf w p.w) by obtain ⟨t, e⟩ := Option.isSome_iff_exists.1 hqin.1; rw [e, typeOf_self e])).2
  have n2 := (findT_some (show findT r p.r = some (typeOf r p.r) by obtain ⟨t, e⟩ := Option.isSome_iff_exists.1 hqin.2; rw [e, typeOf_self e])).2
  have := (h.seen rfl (typeOf w p.w) (typeOf r p.r) f ⟨hqw, hqr, hf⟩ (by rw [n1, n2]; exact hmet i p hi) g hg).1 y ((reads_whys hw hr (field_at hw hqw hf) (field_at hr hqr (fieldOf_in hg))).2 hy)
  rw [n1] at this
  exact this
end
def idsN (i : Nat) : List Int := (List.range i).map fun k : Nat => (k : Int) + 1
theorem idsN_step (i : Nat) : idsN (i + 1) = idsN i ++ [(i : Int) + 1] := by unfold idsN; rw [List.range_succ, List.map_append]; rfl
def outY (h : FlawD → Bool) (n : ByteArray) (id : Int) (ys : List Int) : List FlawD := (ys.map fun y => (⟨n, id, y⟩ : FlawD)).filter h
def outI (h : FlawD → Bool) (n : ByteArray) (ids : List Int) : List FlawD := ids.flatMap fun id => outY h n id (idsN 3)
def outR (h : FlawD → Bool) (w : BookD) : List FlawD := w.flatMap fun t => outI h t.name (idsN 30)
theorem idsN_mem {i : Nat} {x : Int} : x ∈ idsN i ↔ 1 ≤ x ∧ x ≤ i := by
 unfold idsN
 rw [List.mem_map]
 constructor
 ·rintro ⟨k, hk, rfl⟩
  rw [List.mem_range] at hk
  omega
 ·rintro ⟨h1, h2⟩
  exact ⟨(x - 1).toNat, by rw [List.mem_range]; omega, by omega⟩
theorem idsN_sorted (i : Nat) : (idsN i).Pairwise (· < ·) := by
 induction i with
 | zero => exact List.Pairwise.nil
 | succ i ih =>
  rw [idsN_step, List.pairwise_append]
  exact ⟨ih, List.pairwise_singleton _ _, fun a ha b hb => by have := (idsN_mem.1 ha).2; simp at hb; omega⟩
theorem outY_mem {h : FlawD → Bool} {n : ByteArray} {id : Int} {ys : List Int} {x : FlawD} : x ∈ outY h n id ys ↔ h x = true ∧ x.type = n ∧ x.id = id ∧ x.why ∈ ys := by
 unfold outY
 rw [List.mem_filter, List.mem_map]
 constructor
 ·rintro ⟨⟨y, hy, rfl⟩, hh⟩; exact ⟨hh, rfl, rfl, hy⟩
 ·rintro ⟨hh, rfl, rfl, hy⟩; exact ⟨⟨x.why, hy, rfl⟩, hh⟩
theorem outI_mem {h : FlawD → Bool} {n : ByteArray} {ids : List Int} {x : FlawD} : x ∈ outI h n ids ↔ h x = true ∧ x.type = n ∧ x.id ∈ ids ∧ x.why ∈ idsN 3 := by
 unfold outI
 rw [List.mem_flatMap]
 constructor
 ·rintro ⟨id, hid, hx⟩
  obtain ⟨h1, h2, h3, h4⟩ := outY_mem.1 hx
  exact ⟨h1, h2, h3 ▸ hid, h4⟩
 ·rintro ⟨h1, h2, h3, h4⟩; exact ⟨x.id, h3, outY_mem.2 ⟨h1, h2, rfl, h4⟩⟩
theorem outR_mem {h : FlawD → Bool} {w : BookD} {x : FlawD} : x ∈ outR h w ↔ h x = true ∧ x.type ∈ w.map (·.name) ∧ x.id ∈ idsN 30 ∧ x.why ∈ idsN 3 := by
 unfold outR
 rw [List.mem_flatMap, List.mem_map]
 constructor
 ·rintro ⟨t, ht, hx⟩
  obtain ⟨h1, h2, h3, h4⟩ := outI_mem.1 hx
  exact ⟨h1, ⟨t, ht, h2.symm⟩, h3, h4⟩
 ·rintro ⟨h1, ⟨t, ht, e⟩, h3, h4⟩; exact ⟨t, ht, outI_mem.2 ⟨h1, e.symm, h3, h4⟩⟩
theorem pair_flat {α β : Type} {R : β → β → Prop} {F : α → List β} : ∀ {l : List α}, (∀ a ∈ l, (F a).Pairwise R) → l.Pairwise (fun a b => ∀ x ∈ F a, ∀ y ∈ F b, R x y) → (l.flatMap F).Pairwise R
 | [], _, _ => List.Pairwise.nil
 | a :: l, h1, h2 => by
  obtain ⟨h3, h4⟩ := List.pairwise_cons.1 h2
  rw [List.flatMap_cons, List.pairwise_append]
  refine ⟨h1 a (by simp), pair_flat (fun b hb => h1 b (by simp [hb])) h4, fun x hx y hy => ?_⟩
  obtain ⟨b, hb, hy⟩ := List.mem_flatMap.1 hy
  exact h3 b hb x hx y hy
theorem ltS_bytes {a b : ByteArray} (h : ltS a b) : bytes a < bytes b := by
 have h2 : ltFlaw ⟨a, 0, 0⟩ ⟨b, 0, 0⟩ = true := by unfold ltFlaw; simp [h]
 rcases (ltFlaw_iff _ _).1 h2 with h3 | ⟨_, h3 | ⟨_, h3⟩⟩
 ·exact h3
 ·exact absurd h3 (Int.lt_irrefl 0)
 ·exact absurd h3 (Int.lt_irrefl 0)
theorem good_pairwise {b : BookD} (hg : goodF b = 0) : b.Pairwise (fun s t => ltS s.name t.name) := by
 obtain ⟨_, h3, _⟩ := good_parts hg
 exact pairwise_of_next (R := fun s t : TypeD => ltS s.name t.name) (fun _ _ _ h1 h2 => ltS_trans h1 h2) _ fun i hi h0 => (h3 i hi).2.1 h0
theorem outR_sorted {h : FlawD → Bool} {w : BookD} (hg : goodF w = 0) : (outR h w).Pairwise FlawLt := by
 unfold outR
 refine pair_flat (fun t _ => ?_) ((good_pairwise hg).imp fun hst x hx y hy => ?_)
 ·unfold outI
  refine pair_flat (fun id _ => ?_) ((idsN_sorted 30).imp fun hlt x hx y hy => ?_)
  ·unfold outY
   refine List.Pairwise.filter _ ?_
   rw [List.pairwise_map]
   exact (idsN_sorted 3).imp fun hlt => .inr ⟨rfl, .inr ⟨rfl, hlt⟩⟩
  ·obtain ⟨_, h1, h2, _⟩ := outY_mem.1 hx
   obtain ⟨_, k1, k2, _⟩ := outY_mem.1 hy
   exact .inr ⟨by rw [h1, k1], .inl (by rw [h2, k2]; exact hlt)⟩
 ·obtain ⟨_, h1, _, _⟩ := outI_mem.1 hx
  obtain ⟨_, k1, _, _⟩ := outI_mem.1 hy
  exact .inl (by rw [h1, k1]; exact ltS_bytes hst)
theorem strict_unique {α : Type} {R : α → α → Prop} (hi : ∀ a, ¬ R a a) (ht : ∀ a b c, R a b → R b c → R a c) : ∀ {l l' : List α}, l.Pairwise R → l'.Pairwise R → (∀ x, x ∈ l ↔ x ∈ l') → l = l'
 | [], [], _, _, _ => rfl
 | [], b :: l', _, _, h => absurd ((h b).2 (by simp)) (by simp)
 | a :: l, [], _, _, h => absurd ((h a).1 (by simp)) (by simp)
 | a :: l, b :: l', h1, h2, h => by
  obtain ⟨a1, a2⟩ := List.pairwise_cons.1 h1
  obtain ⟨b1, b2⟩ := List.pairwise_cons.1 h2
  have e : a = b := by
   rcases List.mem_cons.1 ((h a).1 (by simp)) with e | e
   ·exact e
   ·rcases List.mem_cons.1 ((h b).2 (by simp)) with e' | e'
    ·exact e'.symm
    ·exact absurd (ht _ _ _ (a1 b e') (b1 a e)) (hi a)
  subst e
  rw [strict_unique hi ht a2 b2 fun x => ?_]
  constructor
  ·intro hx
   rcases List.mem_cons.1 ((h x).1 (by simp [hx])) with e | e
   ·subst e; exact absurd (a1 x hx) (hi x)
   ·exact e
  ·intro hx
   rcases List.mem_cons.1 ((h x).2 (by simp [hx])) with e | e
   ·subst e; exact absurd (b1 x hx) (hi x)
   ·exact e
theorem onceF_mem {x : FlawD} : ∀ {l : List FlawD}, x ∈ onceF l ↔ x ∈ l
 | [] => by simp [onceF]
 | [y] => by simp [onceF]
 | y :: z :: l => by
  rw [onceF]
  by_cases e : y = z
  ·rw [if_pos e, onceF_mem (l := z :: l), e]; simp
  ·rw [if_neg e, List.mem_cons, onceF_mem (l := z :: l), List.mem_cons (b := y)]
theorem onceF_sorted : ∀ {l : List FlawD}, l.Pairwise (fun a b => ltFlaw b a = false) → (onceF l).Pairwise FlawLt
 | [], _ => List.Pairwise.nil
 | [y], _ => List.pairwise_singleton _ _
 | y :: z :: l, h => by
  obtain ⟨h1, h2⟩ := List.pairwise_cons.1 h
  rw [onceF]
  by_cases e : y = z
  ·rw [if_pos e]; exact onceF_sorted h2
  ·rw [if_neg e]
   refine List.pairwise_cons.2 ⟨fun x hx => ?_, onceF_sorted h2⟩
   have hyz : FlawLt y z := by
    rcases flaw_three y z with h | h | h
    ·exact h
    ·exact absurd h e
    ·exact absurd h (flaw_no.1 (h1 z (by simp)))
   rcases List.mem_cons.1 (onceF_mem.1 hx) with rfl | hx
   ·exact hyz
   ·have hzx := (List.pairwise_cons.1 h2).1 x hx
    rcases flaw_three z x with h | h | h
    ·exact flaw_trans hyz h
    ·rw [← h]; exact hyz
    ·exact absurd h (flaw_no.1 hzx)
theorem flaws_in {w r : BookD} {name : ByteArray} (hn : bothF w r name = 0) {x : FlawD} (hx : x ∈ flawsL w r name) : x.type ∈ w.map (·.name) ∧ x.id ∈ idsN 30 ∧ x.why ∈ idsN 3 := by
 obtain ⟨hw, hr, hn1, hn2⟩ := bothF_ok hn
 have hok : PairsOk w r (pairsF w r name) := pairsGo_ok hw hr 18 0 _ (pairs_start hn1 hn2)
 unfold flawsL at hx
 obtain ⟨p, hp, hx⟩ := List.mem_flatMap.1 hx
 obtain ⟨f, hf, hx⟩ := List.mem_flatMap.1 hx
 unfold flawsOf at hx
 split at hx
 ·cases hx
 ·rename_i g hg
  obtain ⟨y, hy, rfl⟩ := List.mem_map.1 hx
  have hqin := hok.2 p hp
  have hfp := field_at hw (typeOf_mem hqin.1) hf
  refine ⟨findT_mem hqin.1, idsN_mem.2 ⟨hfp.2.1, hfp.2.2.1⟩, idsN_mem.2 ?_⟩
  rcases why_one hy with ⟨rfl, _⟩ | ⟨rfl, _⟩ | ⟨rfl, _⟩ <;> (constructor <;> simp)
theorem out_flaws {w r : BookD} {name : ByteArray} (hn : bothF w r name = 0) {h : FlawD → Bool} (hh : ∀ x, x.type ∈ w.map (·.name) → x.id ∈ idsN 30 → x.why ∈ idsN 3 → (h x = true ↔ x ∈ flawsL w r name)) : outR h w = (flawsF w r name).1 := by
 obtain ⟨hw, hr, hn1, hn2⟩ := bothF_ok hn
 unfold flawsF
 rw [if_neg (by simpa using hn)]
 refine strict_unique flaw_irrefl (fun _ _ _ => flaw_trans) (outR_sorted hw) (onceF_sorted ?_) fun x => ?_
 ·have := fold_descG swo_flaw (flawsL w r name) [] List.Pairwise.nil
  unfold sortS
  exact List.pairwise_reverse.2 (this.imp fun h => h)
 ·rw [outR_mem, onceF_mem, (sortS_perm _).mem_iff]
  constructor
  ·rintro ⟨h1, h2, h3, h4⟩; exact (hh x h2 h3 h4).1 h1
  ·intro hx
   obtain ⟨h2, h3, h4⟩ := flaws_in hn hx
   exact ⟨(hh x h2 h3 h4).2 hx, h2, h3, h4⟩
end Go.Proofs.YtfidfakcbjoilaaGreatDoor
