/- Plain laws of compat: where there is a flaw, there is what cannot be read. -/
import Derived.Test.YtfidfakcbjoilaaGreatDoorCLaws
set_option linter.all false
namespace Go.Proofs.YtfidfakcbjoilaaGreatDoor
def leastZ (b : BookD) (t : TypeD) : List (Int × ValueD) := (onesL t).map fun f => (f.id, leastOfF b 4 f)
def withZ (id : Int) (l : List ValueD) (z : List (Int × ValueD)) : List (Int × ValueD) := z.filter (fun p => decide (p.1 < id)) ++ l.map (fun x => (id, x)) ++ z.filter (fun p => decide (id < p.1))
def withF (b : BookD) (t : TypeD) (id : Int) (l : List ValueD) : ValueD := msgV ((withZ id l (leastZ b t)).map (·.1)) ((withZ id l (leastZ b t)).map (·.2))
def brokenL (w r : BookD) (f g : FieldD) (why : Int) : List ValueD := if why = 2 then [leastOfF w 4 f, leastOfF w 4 f] else if why = 3 then [.mk 0 ((lacksF w r f g).getD 0) ⟨#[]⟩ [] []] else [leastOfF w 4 f]
def wrapF (w : BookD) (P : List PairD) : Nat → Nat → ValueD → ValueD
 | 0, _, v => v
 | k + 1, i, v => match P[i]? with
  | none => v
  | some p => if p.from_ < 0 then v else wrapF w P k p.from_.toNat (withF w (typeOf w ((P[p.from_.toNat]?.map (·.w)).getD ⟨#[]⟩)) p.id [v])
def firstF (w r : BookD) (p : PairD) : List FieldD → Option (FieldD × FieldD × Int)
 | [] => none
 | f :: fs => match fieldOf (typeOf r p.r) f.id with
  | none => firstF w r p fs
  | some g => match whysF w r f g with
   | [] => firstF w r p fs
   | y :: _ => some (f, g, y)
def seekF (w r : BookD) : Nat → List PairD → Option (Nat × PairD × FieldD × FieldD × Int)
 | _, [] => none
 | i, p :: ps => match firstF w r p (typeOf w p.w).fields with
  | some x => some (i, p, x)
  | none => seekF w r (i + 1) ps
def witnessF (w r : BookD) (name : ByteArray) : ValueD × Int :=
 if bothF w r name ≠ 0 then (.zero, bothF w r name)
 else match seekF w r 0 (pairsF w r name) with
  | none => (.zero, 3)
  | some (i, p, f, g, y) => (wrapF w (pairsF w r name) (i + 1) i (withF w (typeOf w p.w) f.id (brokenL w r f g y)), 0)
theorem firstF_none {w r : BookD} {p : PairD} : ∀ {fs : List FieldD}, firstF w r p fs = none ↔ ∀ f ∈ fs, ∀ g, fieldOf (typeOf r p.r) f.id = some g → whysF w r f g = []
 | [] => by simp [firstF]
 | f :: fs => by
  rw [firstF]
  cases hg : fieldOf (typeOf r p.r) f.id with
  | none =>
   simp only
   rw [firstF_none]
   constructor
   ·intro h f' hf' g hg'
    rcases List.mem_cons.1 hf' with rfl | hf'
    ·rw [hg] at hg'; cases hg'
    ·exact h f' hf' g hg'
   ·exact fun h f' hf' => h f' (List.mem_cons_of_mem _ hf')
  | some g =>
   simp only
   cases hy : whysF w r f g with
   | nil =>
    simp only
    rw [firstF_none]
    constructor
    ·intro h f' hf' g' hg'
     rcases List.mem_cons.1 hf' with rfl | hf'
     ·rw [hg] at hg'; cases hg'; exact hy
     ·exact h f' hf' g' hg'
    ·exact fun h f' hf' => h f' (List.mem_cons_of_mem _ hf')
   | cons y ys =>
    simp only
    constructor
    ·intro h; cases h
    ·intro h
     have := h f (List.mem_cons_self ..) g hg
     rw [hy] at this; cases this
theorem firstF_some {w r : BookD} {p : PairD} {f g : FieldD} {y : Int} : ∀ {fs : List FieldD}, firstF w r p fs = some (f, g, y) → f ∈ fs ∧ fieldOf (typeOf r p.r) f.id = some g ∧ y ∈ whysF w r f g
 | [], h => by cases h
 | f' :: fs, h => by
  rw [firstF] at h
  cases hg : fieldOf (typeOf r p.r) f'.id with
  | none =>
   rw [hg] at h
   have := firstF_some (fs := fs) h
   exact ⟨List.mem_cons_of_mem _ this.1, this.2⟩
  | some g' =>
   rw [hg] at h
   simp only at h
   cases hy : whysF w r f' g' with
   | nil =>
    rw [hy] at h
    have := firstF_some (fs := fs) h
    exact ⟨List.mem_cons_of_mem _ this.1, this.2⟩
   | cons y' ys =>
    rw [hy] at h
    simp only [Option.some.injEq, Prod.mk.injEq] at h
    obtain ⟨rfl, rfl, rfl⟩ := h
    exact ⟨List.mem_cons_self .., hg, by rw [hy]; exact List.mem_cons_self ..⟩
theorem seekF_none {w r : BookD} : ∀ {i : Nat} {ps : List PairD}, seekF w r i ps = none ↔ ClearP w r ps
 | _, [] => by simp [seekF, ClearP]
 | i, p :: ps => by
  rw [seekF]
  cases h : firstF w r p (typeOf w p.w).fields with
  | none =>
   simp only
   rw [seekF_none]
   unfold ClearP
   constructor
   ·intro h2 q hq
    rcases List.mem_cons.1 hq with rfl | hq
    ·exact firstF_none.1 h
    ·exact h2 q hq
   ·exact fun h2 q hq => h2 q (List.mem_cons_of_mem _ hq)
  | some x =>
   obtain ⟨f, g, y⟩ := x
   simp only
   obtain ⟨h1, h2, h3⟩ := firstF_some h
   constructor
   ·intro h; cases h
   ·intro h4
    have := h4 p (List.mem_cons_self ..) f h1 g h2
    rw [this] at h3; cases h3
theorem seekF_some {w r : BookD} {i j : Nat} {p : PairD} {f g : FieldD} {y : Int} : ∀ {ps : List PairD}, seekF w r i ps = some (j, p, f, g, y) → ∃ k, j = i + k ∧ ps[k]? = some p ∧ f ∈ (typeOf w p.w).fields ∧ fieldOf (typeOf r p.r) f.id = some g ∧ y ∈ whysF w r f g := by
 intro ps
 induction ps generalizing i with
 | nil => intro h; cases h
 | cons q ps ih =>
  intro h
  rw [seekF] at h
  cases h1 : firstF w r q (typeOf w q.w).fields with
  | none =>
   rw [h1] at h
   obtain ⟨k, e, h2⟩ := ih h
   exact ⟨k + 1, by omega, by simpa using h2⟩
  | some x =>
   obtain ⟨f', g', y'⟩ := x
   rw [h1] at h
   simp only [Option.some.injEq, Prod.mk.injEq] at h
   obtain ⟨rfl, rfl, rfl, rfl, rfl⟩ := h
   exact ⟨0, rfl, by simp, firstF_some h1⟩
theorem clear_iff {w r : BookD} {name : ByteArray} (hb : bothF w r name = 0) : (flawsF w r name).1 = [] ↔ ClearP w r (pairsF w r name) := by
 constructor
 ·exact fun h => clear_of (flawsF_none hb h)
 ·intro h
  have e : flawsL w r name = [] := by
   unfold flawsL
   rw [List.flatMap_eq_nil_iff]
   intro p hp
   rw [List.flatMap_eq_nil_iff]
   intro f hf
   unfold flawsOf
   split
   ·rfl
   ·rename_i g hg
    rw [h p hp f hf g hg]; rfl
  unfold flawsF
  rw [if_neg (by simpa using hb), e]; rfl
theorem zip_both (z : List (Int × ValueD)) : (z.map (·.1)).zip (z.map (·.2)) = z := zip_map_both z
theorem leastZ_tf (b : BookD) (t : TypeD) : leastTF b 4 t = msgV ((leastZ b t).map (·.1)) ((leastZ b t).map (·.2)) := by
 unfold leastTF leastZ onesL
 rw [List.map_map, List.map_map]; rfl
theorem leastZ_sorted {b : BookD} {t : TypeD} (hm : MessageP b t) : (leastZ b t).Pairwise (fun p q => p.1 < q.1) := by
 unfold leastZ onesL
 rw [List.pairwise_map]
 exact (msg_sorted hm).filter _
theorem withF_typed {b : BookD} (hg : goodF b = 0) {t : TypeD} (hm : MessageP b t) {f : FieldD} (hf : f ∈ t.fields) {l : List ValueD} (hl : l ≠ []) (hfit : ∀ x ∈ l, fitsF b f x = 0 ∧ (f.kind = 5 → typedF b (typeOf b f.type) x = 0)) (h3 : l.length ≤ 1 ∨ f.rule = 3) :
  typedF b t (withF b t f.id l) = 0 := by
 have hfo := fieldOf_mem hm hf
 have hz : ∀ p ∈ leastZ b t, ∃ h ∈ t.fields, p = (h.id, leastOfF b 4 h) ∧ fieldOf t p.1 = some h := by
  intro p hp
  obtain ⟨h, hh, rfl⟩ := List.mem_map.1 hp
  exact ⟨h, (onesL_mem.1 hh).1, rfl, fieldOf_mem hm (onesL_mem.1 hh).1⟩
 have hmem : ∀ p ∈ withZ f.id l (leastZ b t), (p.1 = f.id ∧ p.2 ∈ l) ∨ p ∈ leastZ b t := by
  intro p hp
  unfold withZ at hp
  rcases List.mem_append.1 hp with hp | hp
  ·rcases List.mem_append.1 hp with hp | hp
   ·exact .inr (List.mem_filter.1 hp).1
   ·obtain ⟨x, hx, rfl⟩ := List.mem_map.1 hp
    exact .inl ⟨rfl, hx⟩
  ·exact .inr (List.mem_filter.1 hp).1
 rw [typedF_iff]
 refine ⟨rfl, by simp [withF, msgV, ValueD.ids, ValueD.l], rfl, rfl, ?_, ?_, ?_, ?_⟩
 ·intro id hid
  obtain ⟨p, hp, rfl⟩ := List.mem_map.1 (show id ∈ (withZ f.id l (leastZ b t)).map (·.1) from hid)
  rcases hmem p hp with ⟨e, _⟩ | h
  ·rw [e, hfo]; rfl
  ·obtain ⟨q, _, _, e⟩ := hz p h
   rw [e]; rfl
 ·show ((withZ f.id l (leastZ b t)).map (·.1)).Pairwise (Follow t)
  rw [List.pairwise_map]
  unfold withZ
  have hs := leastZ_sorted hm
  rw [List.pairwise_append, List.pairwise_append]
  refine ⟨⟨(hs.filter _).imp follow_lt, ?_, ?_⟩, (hs.filter _).imp follow_lt, ?_⟩
  ·rw [List.pairwise_map]
   rcases h3 with h3 | h3
   ·match l, h3 with
    | [], _ => exact List.Pairwise.nil
    | [x], _ => exact List.pairwise_singleton _ _
   ·refine List.pairwise_of_forall_mem_list fun x _ y _ => ⟨by omega, fun _ => ?_⟩
    rw [hfo]; exact h3
  ·intro p hp q hq
   obtain ⟨x, _, rfl⟩ := List.mem_map.1 hq
   exact follow_lt (by simpa using (List.mem_filter.1 hp).2)
  ·intro p hp q hq
   have hq2 : f.id < q.1 := by simpa using (List.mem_filter.1 hq).2
   rcases List.mem_append.1 hp with hp | hp
   ·have : p.1 < f.id := by simpa using (List.mem_filter.1 hp).2
    exact follow_lt (by omega)
   ·obtain ⟨x, _, rfl⟩ := List.mem_map.1 hp
    exact follow_lt hq2
 ·intro p hp
  have hp' : p ∈ withZ f.id l (leastZ b t) := by
   have : (withF b t f.id l).ids.zip (withF b t f.id l).l = withZ f.id l (leastZ b t) := zip_both _
   rwa [this] at hp
  unfold FitP
  rcases hmem p hp' with ⟨e, hx⟩ | h
  ·rw [e, hfo]
   exact hfit _ hx
  ·obtain ⟨q, hq, e, e2⟩ := hz p h
   rw [e2, e]
   exact least_fits hg 4 q (msg_field hm hq) (good_ends hg hm hq)
 ·show fullF t ((withZ f.id l (leastZ b t)).map (·.1)) = true
  unfold fullF
  rw [List.all_eq_true]
  intro h hh
  by_cases h1 : h.rule = 1
  ·have : hasI ((withZ f.id l (leastZ b t)).map (·.1)) h.id = true := by
    rw [hasI_iff]
    have hin : (h.id, leastOfF b 4 h) ∈ leastZ b t := List.mem_map.2 ⟨h, onesL_mem.2 ⟨hh, h1⟩, rfl⟩
    unfold withZ
    rcases Int.lt_trichotomy h.id f.id with hlt | heq | hgt
    ·exact List.mem_map.2 ⟨_, List.mem_append_left _ (List.mem_append_left _ (List.mem_filter.2 ⟨hin, by simpa using hlt⟩)), rfl⟩
    ·obtain ⟨x, hx⟩ := List.exists_mem_of_ne_nil l hl
     exact List.mem_map.2 ⟨(f.id, x), List.mem_append_left _ (List.mem_append_right _ (List.mem_map.2 ⟨x, hx, rfl⟩)), heq.symm⟩
    ·exact List.mem_map.2 ⟨_, List.mem_append_right _ (List.mem_filter.2 ⟨hin, by simpa using hgt⟩), rfl⟩
   rw [this]; simp
  ·simp [h1]
theorem countL_two (id : Int) : ∀ z : List (Int × ValueD), countL ((z.filter (fun p => decide (p.1 < id))).map (·.2)) + countL ((z.filter (fun p => decide (id < p.1))).map (·.2)) ≤ countL (z.map (·.2))
 | [] => by simp [countL]
 | p :: z => by
  have ih := countL_two id z
  rw [List.filter_cons, List.filter_cons]
  by_cases h1 : p.1 < id
  ·have h2 : ¬ id < p.1 := by omega
   simp only [h1, h2, decide_true, decide_false, if_true, Bool.false_eq_true, if_false, List.map_cons, countL]
   omega
  ·by_cases h2 : id < p.1
   ·simp only [h1, h2, decide_true, decide_false, if_true, Bool.false_eq_true, if_false, List.map_cons, countL]
    omega
   ·simp only [h1, h2, decide_false, Bool.false_eq_true, if_false, List.map_cons, countL]
    omega
theorem withF_count {b : BookD} (hg : goodF b = 0) {t : TypeD} (ht : t ∈ b) (he : t.enum = false) (hfi : findT b t.name = some t) (id : Int) (l : List ValueD) : countV (withF b t id l) ≤ 12 + countL l := by
 have h12 : countV (leastTF b 4 t) ≤ 12 := by rw [good_leastN hg ht hfi he]; exact (good_least hg ht he).2
 rw [leastZ_tf, msgV, countV] at h12
 unfold withF msgV withZ
 rw [countV]
 simp only [List.map_append, countL_append, List.map_map]
 have := countL_two id (leastZ b t)
 have e : l.map ((fun p : Int × ValueD => p.2) ∘ fun x => (id, x)) = l := by simp [Function.comp_def]
 rw [e]
 omega
theorem withF_depth (b : BookD) (t : TypeD) (id : Int) (l : List ValueD) {D : Nat} (hD : 5 ≤ D) (h : ∀ x ∈ l, depthV x ≤ D) : depthV (withF b t id l) ≤ D + 1 := by
 unfold withF msgV
 rw [depthV]
 have := depthL_le (n := D) (l := (withZ id l (leastZ b t)).map (·.2)) (fun x hx => by
  obtain ⟨p, hp, rfl⟩ := List.mem_map.1 hx
  have hz : ∀ p ∈ leastZ b t, depthV p.2 ≤ D := by
   intro p hp
   obtain ⟨f, _, rfl⟩ := List.mem_map.1 hp
   exact Nat.le_trans (least_depth 4 f) hD
  unfold withZ at hp
  rcases List.mem_append.1 hp with hp | hp
  ·rcases List.mem_append.1 hp with hp | hp
   ·exact hz _ (List.mem_filter.1 hp).1
   ·obtain ⟨y, hy, rfl⟩ := List.mem_map.1 hp
    exact h y hy
  ·exact hz _ (List.mem_filter.1 hp).1)
 omega
def ErrR (e : Int) : Prop := e = 0 ∨ e = 4 ∨ e = 5 ∨ e = 6
theorem number_bound {w : BookD} (hw : goodF w = 0) {f : FieldD} (hf : fieldP w f) (h0 : kindOf f.kind = 0) {x : ValueD} (hx : fitsF w f x = 0) : -1099511627776 ≤ x.n ∧ x.n ≤ 1099511627776 := by
 obtain ⟨hx1, hx2⟩ := fits_kind hx
 have hrest := hx
 unfold fitsF at hrest
 rw [if_neg (by simpa using hx1), if_neg (by rw [hx2]; decide)] at hrest
 rcases (kindOf_zero hf.2.2.2.1 hf.2.2.2.2.1).1 h0 with e | e | e
 ·rw [if_pos e] at hrest
  have hn : x.n = 0 ∨ x.n = 1 := by
   split at hrest
   ·assumption
   ·cases hrest
  omega
 ·rw [if_neg (by omega), if_pos e] at hrest
  split at hrest
  ·cases hrest
  ·rename_i h; omega
 ·rw [if_neg (by omega), if_neg (by omega), if_neg (by omega), if_pos e] at hrest
  have hm : meansF (typeOf w f.type) x.n = true := by
   unfold typeOf
   split at hrest
   ·assumption
   ·cases hrest
  have hmem := means_in.1 hm
  obtain ⟨t, -, ht, -, he⟩ := field_enum hw hf e
  rw [ht] at hmem
  obtain ⟨y, hy, hyn⟩ := List.mem_map.1 hmem
  obtain ⟨i, hi, rfl⟩ := List.getElem_of_mem hy
  have := he.1 i hi
  rw [← hyn]
  exact ⟨this.2.1, this.2.2.1⟩
theorem fits_errs {w r : BookD} (hw : goodF w = 0) {f g : FieldD} (hf : fieldP w f) (hg : fieldP r g) {x : ValueD} (hx : fitsF w f x = 0) (id : Int) (inner : List UInt8) : ErrR (fitsF r g (bareV (partOf id x inner))) := by
 obtain ⟨hb, hb2⟩ := bare_part hx id inner
 obtain ⟨k1, k2⟩ := fits_kind hb
 generalize hz : bareV (partOf id x inner) = z at hb hb2 k1 k2 ⊢
 unfold fitsF
 by_cases hk : z.kind = kindOf g.kind
 ·rw [if_neg (by simpa using hk), if_neg (by rw [k2]; decide)]
  by_cases g1 : g.kind = 1
  ·rw [if_pos g1]; split
   ·exact .inl rfl
   ·exact .inr (.inr (.inr rfl))
  ·rw [if_neg g1]
   by_cases g2 : g.kind = 2
   ·rw [if_pos g2]
    have h0 : kindOf f.kind = 0 := by rw [← k1, hk, g2]; rfl
    have := number_bound hw hf h0 hb
    rw [if_neg (by omega)]
    exact .inl rfl
   ·rw [if_neg g2]
    by_cases g3 : g.kind = 3
    ·rw [if_pos g3]
     have h1 : kindOf f.kind = 1 := by rw [← k1, hk, g3]; rfl
     have f3 : f.kind = 3 := by
      unfold kindOf at h1
      split at h1
      ·assumption
      ·split at h1 <;> cases h1
     have hrest := hb
     unfold fitsF at hrest
     rw [if_neg (by simpa using k1), if_neg (by rw [k2]; decide), if_neg (by omega), if_neg (by omega), if_pos f3] at hrest
     split at hrest
     ·rename_i hp; rw [if_pos hp]; exact .inl rfl
     ·cases hrest
    ·rw [if_neg g3]
     split
     ·split
      ·exact .inl rfl
      ·exact .inr (.inr (.inr rfl))
     ·exact .inl rfl
 ·rw [if_pos (by simpa using hk)]
  exact .inr (.inr (.inl rfl))
theorem decGo_errs {w r : BookD} (hw : goodF w = 0) {tw tr : TypeD} (hmw : MessageP w tw) (hmr : MessageP r tr) {k : Nat} {rec : TypeD → List UInt8 → ValueD × Int}
  (hrec : ∀ f ∈ tw.fields, ∀ g, fieldOf tr f.id = some g → f.kind = 5 → g.kind = 5 → ∀ x, depthV x ≤ k → typedF w (typeOf w f.type) x = 0 → (encV x).2 = 0 → ErrR (rec (typeOf r g.type) (encV x).1).2) : ∀ (l : List ValueD) (ids : List Int) (last : Option Int) (ai : List Int) (al : List ValueD), ids.length = l.length →
  (∀ id ∈ ids, (fieldOf tw id).isSome = true ∧ ∀ k, last = some k → Follow tw k id) → ids.Pairwise (Follow tw) → (∀ p ∈ ids.zip l, FitP w tw p.1 p.2) → (∀ x ∈ l, depthV x ≤ k) → (∀ x ∈ l, x.kind = 2 → (encV x).2 = 0) →
  ErrR (decGo r rec tr last (partsL ids l) ai al).2 ∧ ((decGo r rec tr last (partsL ids l) ai al).2 = 0 → ∀ p ∈ ids.zip l, ∀ g, fieldOf tr p.1 = some g → fitsF r g (bareV (partOf p.1 p.2 (encV p.2).1)) = 0 ∧ (g.rule ≠ 3 → p.1 ∉ ai) ∧ (g.kind = 5 → p.2.kind = 2 ∧ (rec (typeOf r g.type) (encV p.2).1).2 = 0)) ∧
   ((decGo r rec tr last (partsL ids l) ai al).2 = 0 → (ids.zip l).Pairwise (fun p q => ∀ g, fieldOf tr p.1 = some g → g.rule ≠ 3 → p.1 ≠ q.1))
 | [], ids, last, ai, al, h, _, _, _, _, _ => by
  have : ids = [] := List.eq_nil_of_length_eq_zero (by simpa using h)
  subst this; simp [partsL, decGo, ErrR]
 | x :: l, [], last, ai, al, h, _, _, _, _, _ => by simp at h
 | x :: l, id :: ids, last, ai, al, h, hk, hp, hf, hd, he => by
  have hid := hk id (by simp)
  obtain ⟨f, hff⟩ := Option.isSome_iff_exists.1 hid.1
  have hfit := hf (id, x) (by simp)
  unfold FitP at hfit
  simp only [hff, Option.getD_some] at hfit
  obtain ⟨hfm, hfi⟩ := fieldOf_some hff
  have hp' := List.pairwise_cons.1 hp
  have hfall : fallsF last (partOf id x (encV x).1).id = false := by
   unfold fallsF
   cases hl : last with
   | none => rfl
   | some k => exact decide_eq_false (Int.not_lt.2 (hid.2 k hl).1)
  have hpid : (partOf id x (encV x).1).id = id := rfl
  have ih := fun (ai : List Int) (al : List ValueD) => decGo_errs hw hmw hmr hrec l ids (some id) ai al (by simpa using h) (fun i hi => ⟨(hk i (by simp [hi])).1, fun k hk' => by cases hk'; exact hp'.1 i hi⟩) hp'.2 (fun p hp => hf p (by simp [hp])) (fun y hy => hd y (by simp [hy])) (fun y hy => he y (by simp [hy]))
  rw [partsL, decGo, if_neg (by rw [hfall]; decide), hpid, List.zip_cons_cons]
  cases hgg : fieldOf tr id with
  | none =>
   simp only
   obtain ⟨i1, i2, i3⟩ := ih ai al
   refine ⟨i1, fun h0 p hp g hg => ?_, fun h0 => List.pairwise_cons.2 ⟨fun q _ g hg => ?_, i3 h0⟩⟩
   ·rcases List.mem_cons.1 hp with rfl | hp
    ·rw [hgg] at hg; cases hg
    ·exact i2 h0 p hp g hg
   ·rw [hgg] at hg; cases hg
  | some g =>
   simp only
   obtain ⟨hgm, hgi⟩ := fieldOf_some hgg
   have hgg' : fieldOf tr f.id = some g := by rw [hfi]; exact hgg
   have herr := fits_errs hw (msg_field hmw hfm) (msg_field hmr hgm) hfit.1 id (encV x).1
   by_cases q1 : fitsF r g (bareV (partOf id x (encV x).1)) = 0
   ·rw [if_neg (by simpa using q1)]
    by_cases ht : g.rule ≠ 3 ∧ hasI ai id = true
    ·rw [if_pos ht]
     exact ⟨.inr (.inl rfl), fun h => absurd h (by decide), fun h => absurd h (by decide)⟩
    ·rw [if_neg ht]
     have hnot : g.rule ≠ 3 → id ∉ ai := fun h3 h4 => ht ⟨h3, hasI_iff.2 h4⟩
     have rest : ∀ (v : ValueD), (g.kind = 5 → x.kind = 2 ∧ (rec (typeOf r g.type) (encV x).1).2 = 0) → ErrR (decGo r rec tr (some id) (partsL ids l) (ai ++ [id]) (al ++ [v])).2 ∧
       ((decGo r rec tr (some id) (partsL ids l) (ai ++ [id]) (al ++ [v])).2 = 0 → ∀ p ∈ (id, x) :: ids.zip l, ∀ g, fieldOf tr p.1 = some g → fitsF r g (bareV (partOf p.1 p.2 (encV p.2).1)) = 0 ∧ (g.rule ≠ 3 → p.1 ∉ ai) ∧ (g.kind = 5 → p.2.kind = 2 ∧ (rec (typeOf r g.type) (encV p.2).1).2 = 0)) ∧
       ((decGo r rec tr (some id) (partsL ids l) (ai ++ [id]) (al ++ [v])).2 = 0 → ((id, x) :: ids.zip l).Pairwise (fun p q => ∀ g, fieldOf tr p.1 = some g → g.rule ≠ 3 → p.1 ≠ q.1)) := by
      intro v hv5
      obtain ⟨i1, i2, i3⟩ := ih (ai ++ [id]) (al ++ [v])
      refine ⟨i1, fun h0 p hp g' hg' => ?_, fun h0 => List.pairwise_cons.2 ⟨fun q hq g' hg' h3 e => ?_, i3 h0⟩⟩
      ·rcases List.mem_cons.1 hp with rfl | hp
       ·simp only at hg' ⊢
        rw [hgg] at hg'; cases hg'
        exact ⟨q1, hnot, hv5⟩
       ·obtain ⟨a1, a2, a3⟩ := i2 h0 p hp g' hg'
        exact ⟨a1, fun h3 h4 => a2 h3 (List.mem_append_left _ h4), a3⟩
      ·simp only at hg' e
       obtain ⟨_, a2, _⟩ := i2 h0 q hq g' (by rw [← e]; exact hg')
       exact a2 h3 (by rw [← e]; simp)
     by_cases h5 : g.kind = 5
     ·have hk2 : x.kind = 2 := by
       have := (fits_kind q1).1
       have e : (bareV (partOf id x (encV x).1)).kind = x.kind := rfl
       rw [e, h5] at this; exact this
      have hf5 : f.kind = 5 := by
       have := (fits_kind hfit.1).1
       rw [hk2] at this
       unfold kindOf at this
       split at this
       ·cases this
       ·split at this
        ·assumption
        ·cases this
      have hs : bytes (partOf id x (encV x).1).s = (encV x).1 := by simp only [partOf, if_pos hk2]
      have hr := hrec f hfm g hgg' hf5 h5 x (hd x (by simp)) (hfit.2 hf5) (he x (by simp) hk2)
      rw [if_pos h5, hs]
      by_cases h0 : (rec (typeOf r g.type) (encV x).1).2 = 0
      ·rw [if_neg (by simpa using h0)]
       exact rest _ (fun _ => ⟨hk2, h0⟩)
      ·rw [if_pos h0]
       exact ⟨hr, fun h => absurd h h0, fun h => absurd h h0⟩
     ·rw [if_neg h5]
      exact rest _ (fun h => absurd h h5)
   ·rw [if_pos q1]
    exact ⟨herr, fun h => absurd h q1, fun h => absurd h q1⟩
theorem dec_errs {w r : BookD} (hw : goodF w = 0) (hr : goodF r = 0) : ∀ (k : Nat) (tw tr : TypeD) (v : ValueD), MessageP w tw → MessageP r tr → depthV v ≤ k → typedF w tw v = 0 → (encV v).2 = 0 →
  ErrR (decV r k tr (encV v).1).2 ∧ ((decV r k tr (encV v).1).2 = 0 → (∀ p ∈ v.ids.zip v.l, ∀ g, fieldOf tr p.1 = some g → fitsF r g (bareV (partOf p.1 p.2 (encV p.2).1)) = 0 ∧ (g.kind = 5 → p.2.kind = 2 ∧ (decV r (k - 1) (typeOf r g.type) (encV p.2).1).2 = 0)) ∧
   (v.ids.zip v.l).Pairwise (fun p q => ∀ g, fieldOf tr p.1 = some g → g.rule ≠ 3 → p.1 ≠ q.1))
 | 0, _, _, .mk _ _ _ _ _, _, _, hd, _, _ => by rw [depthV] at hd; omega
 | k + 1, tw, tr, .mk kind n s ids l, hmw, hmr, hd, ht, he => by
  obtain ⟨a1, a2, a3, a4, a5, a6, a7, a8⟩ := (typedF_iff w _ _).1 ht
  simp only [ValueD.kind, ValueD.ids, ValueD.l, ValueD.n, ValueD.s] at a1 a2 a3 a4 a5 a6 a7 a8
  subst a1 a3
  have hin : ∀ x ∈ l, x.kind = 2 → (encV x).2 = 0 := by
   rw [encV] at he
   split at he
   ·rename_i h1; exact absurd he h1
   ·rename_i h1
    exact partsGo_ok l ids [] a2 (by simpa using h1)
  have hdl : ∀ x ∈ l, depthV x ≤ k := by
   intro x hx
   have := depthL_mem hx
   rw [depthV] at hd
   omega
  rw [encV_mk a2 hin] at he ⊢
  have hdec := wire_back (l := partsL ids l) (r := (encL (partsL ids l) []).1) (by rw [← he])
  obtain ⟨e1, e2, e3⟩ := decGo_errs hw hmw hmr (k := k) (rec := decV r k) (fun f hf g hg h5 h6 x hxd hxt hxe => by
   obtain ⟨t1, _, h1, _, _, _, m1⟩ := field_msg hw (msg_field hmw hf) h5
   obtain ⟨t2, _, h2, _, _, _, m2⟩ := field_msg hr (msg_field hmr (fieldOf_some hg).1) h6
   exact (dec_errs hw hr k _ _ x (h1 ▸ m1) (h2 ▸ m2) hxd hxt hxe).1) l ids none [] [] a2 (fun i hi => ⟨a5 i hi, fun k hk => by cases hk⟩) a6 a7 hdl hin
  rw [decV, hdec]
  simp only [ne_eq, not_true, if_false]
  by_cases h0 : (decGo r (decV r k) tr none (partsL ids l) [] []).2 = 0
  ·rw [if_neg (by simpa using h0)]
   refine ⟨.inl rfl, fun _ => ⟨fun p hp g hg => ?_, e3 h0⟩⟩
   obtain ⟨q1, _, q3⟩ := e2 h0 p hp g hg
   exact ⟨q1, by simpa using q3⟩
  ·rw [if_pos h0]
   exact ⟨e1, fun h => absurd h h0⟩
def Bad (w r : BookD) (tw tr : TypeD) (v : ValueD) : Prop := typedF w tw v = 0 ∧ ∀ k, depthV v ≤ k → (decV r k tr (encV v).1).2 ≠ 0
theorem mem_insR {α : Type} {lt : α → α → Bool} {x z : α} : ∀ {l : List α}, z ∈ insR lt x l → z = x ∨ z ∈ l
 | [], h => by
  unfold insR at h
  exact .inl (List.mem_singleton.1 h)
 | y :: l, h => by
  unfold insR at h
  split at h
  ·rcases List.mem_cons.1 h with rfl | h
   ·exact .inr (List.mem_cons_self ..)
   ·exact (mem_insR h).imp id (List.mem_cons_of_mem _)
  ·exact List.mem_cons.1 h
theorem mem_sortS {α : Type} {lt : α → α → Bool} {z : α} {l : List α} (h : z ∈ sortS lt l) : z ∈ l := by
 unfold sortS at h
 rw [List.mem_reverse] at h
 have key : ∀ (l a : List α), z ∈ l.foldl (fun a x => insR lt x a) a → z ∈ l ∨ z ∈ a := by
  intro l
  induction l with
  | nil => exact fun a h => .inr h
  | cons x l ih =>
   intro a h
   rcases ih _ h with h | h
   ·exact .inl (List.mem_cons_of_mem _ h)
   ·rcases mem_insR h with rfl | h
    ·exact .inl (List.mem_cons_self ..)
    ·exact .inr h
 exact (key l [] h).elim id (fun h => by cases h)
theorem why_one {w r : BookD} {f g : FieldD} {y : Int} (h : y ∈ whysF w r f g) : (y = 1 ∧ kindOf f.kind ≠ kindOf g.kind) ∨ (y = 3 ∧ kindOf f.kind = kindOf g.kind ∧ kindOf f.kind = 0 ∧ ∃ n, lacksF w r f g = some n) ∨ (y = 2 ∧ f.rule = 3 ∧ g.rule ≠ 3) := by
 unfold whysF at h
 have h' := mem_sortS h
 rcases List.mem_append.1 h' with h | h
 ·unfold whyA at h
  split at h
  ·rename_i hk
   exact .inl ⟨by simpa using h, hk⟩
  ·rename_i hk
   split at h
   ·rename_i hl
    obtain ⟨n, hn⟩ := Option.isSome_iff_exists.1 hl.2
    exact .inr (.inl ⟨by simpa using h, by simpa using hk, hl.1, n, hn⟩)
   ·cases h
 ·unfold whyB at h
  split at h
  ·rename_i hb
   exact .inr (.inr ⟨by simpa using h, hb⟩)
  ·cases h
theorem lacks_some {w r : BookD} {f g : FieldD} {n : Int} (h : lacksF w r f g = some n) : n ∈ numsOf w f ∧ okN r g n = false := by
 unfold lacksF at h
 exact ⟨List.mem_of_find?_eq_some h, by simpa using List.find?_some h⟩
theorem withZ_in (id : Int) {l : List ValueD} {x : ValueD} (h : x ∈ l) (z : List (Int × ValueD)) : (id, x) ∈ withZ id l z :=
 List.mem_append_left _ (List.mem_append_right _ (List.mem_map.2 ⟨x, h, rfl⟩))
theorem withF_zip (b : BookD) (t : TypeD) (id : Int) (l : List ValueD) : (withF b t id l).ids.zip (withF b t id l).l = withZ id l (leastZ b t) := zip_both _
theorem odd_plain (n : Int) : oddF (.mk 0 n ⟨#[]⟩ [] []) = false := by
 unfold oddF
 refine decide_eq_false ?_
 rintro (⟨_, h⟩ | ⟨h, _⟩ | ⟨_, h⟩)
 ·exact absurd h (Nat.lt_irrefl 0)
 ·exact h rfl
 ·exact h rfl
theorem broken_fits {w r : BookD} (hw : goodF w = 0) {t : TypeD} (hm : MessageP w t) {f g : FieldD} (hf : f ∈ t.fields) {y : Int} (hy : y ∈ whysF w r f g) :
  (∀ x ∈ brokenL w r f g y, fitsF w f x = 0 ∧ (f.kind = 5 → typedF w (typeOf w f.type) x = 0)) ∧ brokenL w r f g y ≠ [] ∧ ((brokenL w r f g y).length ≤ 1 ∨ f.rule = 3) ∧ countL (brokenL w r f g y) ≤ 24 ∧ (∀ x ∈ brokenL w r f g y, depthV x ≤ 5) := by
 have hfp := msg_field hm hf
 have hlf := least_fits hw 4 f hfp (good_ends hw hm hf)
 have hcnt : countV (leastOfF w 4 f) ≤ 12 := by
  rw [least_count 4 f (good_ends hw hm hf)]
  unfold leastN
  split
  ·rename_i h5
   obtain ⟨t2, _, _, hm2, hn, he, _⟩ := field_msg hw hfp h5
   rw [← hn]; exact (good_least hw hm2 he).2
  ·omega
 have hdep := least_depth (b := w) 4 f
 unfold brokenL
 rcases why_one hy with ⟨rfl, _⟩ | ⟨rfl, hk, h0, n, hn⟩ | ⟨rfl, h3, _⟩
 ·rw [if_neg (by decide), if_neg (by decide)]
  refine ⟨fun x hx => by rw [List.mem_singleton.1 hx]; exact hlf, by simp, .inl (by simp), by simp only [countL]; omega, fun x hx => by rw [List.mem_singleton.1 hx]; exact hdep⟩
 ·rw [if_neg (by decide), if_pos rfl]
  obtain ⟨h1, -⟩ := lacks_some hn
  refine ⟨fun x hx => ?_, by simp, .inl (by simp), by simp [countL, countV], fun x hx => by rw [List.mem_singleton.1 hx]; simp [depthV, depthL]⟩
  rw [List.mem_singleton.1 hx, hn, Option.getD_some]
  have h5 : f.kind ≠ 5 := fun h => by rw [h] at h0; cases h0
  refine ⟨?_, fun h => absurd h h5⟩
  unfold fitsF
  rw [if_neg (by rw [h0]; simp [ValueD.kind]), if_neg (by rw [odd_plain]; decide)]
  rw [show (ValueD.mk 0 n ⟨#[]⟩ [] []).n = n from rfl]
  unfold numsOf at h1
  rcases (kindOf_zero hfp.2.2.2.1 hfp.2.2.2.2.1).1 h0 with e | e | e
  ·rw [if_pos e] at h1 ⊢
   rw [if_pos (by simpa using h1)]
  ·rw [if_neg (by omega), if_neg (by omega)] at h1
   rw [if_neg (by omega), if_pos e, if_neg]
   show ¬ (n < -1099511627776 ∨ 1099511627776 < n)
   simp only [List.mem_cons, List.not_mem_nil, or_false] at h1
   omega
  ·rw [if_neg (by omega), if_pos e] at h1
   rw [if_neg (by omega), if_neg (by omega), if_neg (by omega), if_pos e, if_pos]
   exact means_in.2 h1
 ·rw [if_pos rfl]
  refine ⟨fun x hx => ?_, by simp, .inr h3, by simp only [countL]; omega, fun x hx => ?_⟩
  ·have : x = leastOfF w 4 f := by simpa using hx
   rw [this]; exact hlf
  ·have : x = leastOfF w 4 f := by simpa using hx
   rw [this]; exact hdep
theorem pairwise_at {α : Type} {R : α → α → Prop} {a b : List α} {x y : α} (h : (a ++ x :: y :: b).Pairwise R) : R x y := by
 have := (List.pairwise_append.1 h).2.1
 exact (List.pairwise_cons.1 this).1 y (List.mem_cons_self ..)
theorem bad_broken {w r : BookD} (hw : goodF w = 0) (hr : goodF r = 0) {tw tr : TypeD} (hmw : MessageP w tw) (hmr : MessageP r tr) {f g : FieldD} (hf : f ∈ tw.fields) (hg : fieldOf tr f.id = some g) {y : Int} (hy : y ∈ whysF w r f g) (he : (encV (withF w tw f.id (brokenL w r f g y))).2 = 0) :
  Bad w r tw tr (withF w tw f.id (brokenL w r f g y)) := by
 obtain ⟨h1, h2, h3, _, _⟩ := broken_fits hw hmw hf hy
 have ht := withF_typed hw hmw hf h2 h1 h3
 refine ⟨ht, fun k hk h0 => ?_⟩
 obtain ⟨-, hz⟩ := dec_errs hw hr k tw tr _ hmw hmr hk ht he
 obtain ⟨hall, hpw⟩ := hz h0
 rw [withF_zip] at hall hpw
 rcases why_one hy with ⟨rfl, hk1⟩ | ⟨rfl, hk3, h00, n, hn⟩ | ⟨rfl, _, hg3⟩
 ·have hx : leastOfF w 4 f ∈ brokenL w r f g 1 := by unfold brokenL; rw [if_neg (by decide), if_neg (by decide)]; simp
  have := (hall _ (withZ_in f.id hx _) g hg).1
  have h4 := (fits_kind this).1
  have h5 := (fits_kind (h1 _ hx).1).1
  have e : (bareV (partOf f.id (leastOfF w 4 f) (encV (leastOfF w 4 f)).1)).kind = (leastOfF w 4 f).kind := rfl
  exact hk1 (by rw [← h5, ← e]; exact h4)
 ·have hx : ValueD.mk 0 n ⟨#[]⟩ [] [] ∈ brokenL w r f g 3 := by unfold brokenL; rw [if_neg (by decide), if_pos rfl, hn]; simp
  have hfit := (hall _ (withZ_in f.id hx _) g hg).1
  have hno := (lacks_some hn).2
  have hgp := msg_field hmr (fieldOf_some hg).1
  have e : bareV (partOf f.id (ValueD.mk 0 n ⟨#[]⟩ [] []) (encV (ValueD.mk 0 n ⟨#[]⟩ [] [])).1) = .mk 0 n ⟨#[]⟩ [] [] := (bare_part (h1 _ hx).1 _ _).2 (fun h => by rw [h] at h00; cases h00)
  simp only at hfit
  rw [e] at hfit
  unfold fitsF at hfit
  rw [if_neg (by rw [← hk3, h00]; simp [ValueD.kind]), if_neg (by rw [odd_plain]; decide)] at hfit
  rw [show (ValueD.mk 0 n ⟨#[]⟩ [] []).n = n from rfl] at hfit
  unfold okN at hno
  rcases (kindOf_zero hgp.2.2.2.1 hgp.2.2.2.2.1).1 (by rw [← hk3]; exact h00) with e | e | e
  ·rw [if_pos e] at hno hfit
   rw [if_neg (by simpa using hno)] at hfit; cases hfit
  ·rw [if_neg (by omega), if_neg (by omega)] at hno; cases hno
  ·rw [if_neg (by omega), if_pos e] at hno
   rw [if_neg (by omega), if_neg (by omega), if_neg (by omega), if_pos e] at hfit
   have hno' : meansF ((findT r g.type).getD .zero) n = false := hno
   rw [hno'] at hfit
   cases hfit
 ·have hb : brokenL w r f g 2 = [leastOfF w 4 f, leastOfF w 4 f] := by unfold brokenL; rw [if_pos rfl]
  rw [hb] at hpw
  unfold withZ at hpw
  simp only [List.map_cons, List.map_nil, List.append_assoc, List.cons_append, List.nil_append] at hpw
  exact pairwise_at hpw g hg hg3 rfl
theorem bad_wrap {w r : BookD} (hw : goodF w = 0) (hr : goodF r = 0) {tw tr : TypeD} (hmw : MessageP w tw) (hmr : MessageP r tr) {f g : FieldD} (hf : f ∈ tw.fields) (hg : fieldOf tr f.id = some g) (hf5 : f.kind = 5) (hg5 : g.kind = 5) {v : ValueD} (hv : Bad w r (typeOf w f.type) (typeOf r g.type) v)
  (he : (encV (withF w tw f.id [v])).2 = 0) : Bad w r tw tr (withF w tw f.id [v]) := by
 obtain ⟨h1, h2⟩ := hv
 obtain ⟨a1, a2, a3, a4, _⟩ := (typedF_iff w _ _).1 h1
 have hfit : ∀ x ∈ [v], fitsF w f x = 0 ∧ (f.kind = 5 → typedF w (typeOf w f.type) x = 0) := by
  intro x hx
  rw [List.mem_singleton.1 hx]
  exact ⟨fits_msg hf5 a1 a3 a4, fun _ => h1⟩
 have ht := withF_typed hw hmw hf (by simp) hfit (.inl (by simp))
 refine ⟨ht, fun k hk h0 => ?_⟩
 obtain ⟨-, hz⟩ := dec_errs hw hr k tw tr _ hmw hmr hk ht he
 obtain ⟨hall, -⟩ := hz h0
 rw [withF_zip] at hall
 have hin := withZ_in f.id (List.mem_singleton_self v) (leastZ w tw)
 have := ((hall _ hin g hg).2 hg5).2
 refine h2 (k - 1) ?_ this
 have hm : v ∈ (withF w tw f.id [v]).l := List.mem_map.2 ⟨_, hin, rfl⟩
 have hdl := depthL_mem hm
 generalize hwf : withF w tw f.id [v] = W at hk hdl
 obtain ⟨_, _, _, _, L⟩ := W
 rw [depthV] at hk
 have hdl' : depthV v ≤ depthL L := hdl
 omega
def PathOk (w r : BookD) (P : List PairD) : Prop := ∀ (i : Nat) (p : PairD), P[i]? = some p → (i = 0 ∧ p.from_ < 0) ∨ ∃ (j : Nat) (q : PairD), j < i ∧ p.from_ = (j : Int) ∧ P[j]? = some q ∧ ∃ f g, f ∈ (typeOf w q.w).fields ∧ f.id = p.id ∧ f.kind = 5 ∧ f.type = p.w ∧ fieldOf (typeOf r q.r) f.id = some g ∧ g.kind = 5 ∧ g.type = p.r
theorem path_step {w r : BookD} {P : List PairD} (h : PathOk w r P) {i : Nat} {p : PairD} (hp : P[i]? = some p) {f : FieldD} (hf : f ∈ (typeOf w p.w).fields) : PathOk w r (pairStep i (typeOf r p.r) P f) := by
 have hi : i < P.length := by
  rcases Nat.lt_or_ge i P.length with h | h
  ·exact h
  ·rw [List.getElem?_eq_none h] at hp; cases hp
 unfold pairStep
 split
 ·exact h
 ·rename_i g hg
  split
  ·rename_i hc
   obtain ⟨h1, h2, _⟩ := hc
   intro k q hk
   rcases Nat.lt_or_ge k P.length with hl | hl
   ·rw [List.getElem?_append_left hl] at hk
    rcases h k q hk with h' | ⟨j, q', hj, e, hq', rest⟩
    ·exact .inl h'
    ·exact .inr ⟨j, q', hj, e, by rw [List.getElem?_append_left (by omega)]; exact hq', rest⟩
   ·rw [List.getElem?_append_right hl] at hk
    have hk0 : k - P.length = 0 := by
     rcases Nat.eq_zero_or_pos (k - P.length) with h | h
     ·exact h
     ·rw [List.getElem?_eq_none (by simp; omega)] at hk; cases hk
    rw [hk0] at hk
    simp only [List.getElem?_cons_zero, Option.some.injEq] at hk
    subst hk
    exact .inr ⟨i, p, by omega, rfl, by rw [List.getElem?_append_left hi]; exact hp, f, g, hf, rfl, h1, rfl, hg, h2, rfl⟩
  ·exact h
theorem step_keeps (i : Nat) (t : TypeD) (l : List PairD) (f : FieldD) {k : Nat} {p : PairD} (h : l[k]? = some p) : (pairStep i t l f)[k]? = some p := by
 have hk : k < l.length := by
  rcases Nat.lt_or_ge k l.length with h' | h'
  ·exact h'
  ·rw [List.getElem?_eq_none h'] at h; cases h
 unfold pairStep
 split
 ·exact h
 ·split
  ·rw [List.getElem?_append_left hk]; exact h
  ·exact h
theorem path_fold {w r : BookD} {i : Nat} {p : PairD} : ∀ (fs : List FieldD) (P : List PairD), PathOk w r P → P[i]? = some p → (∀ f ∈ fs, f ∈ (typeOf w p.w).fields) → PathOk w r (fs.foldl (pairStep i (typeOf r p.r)) P) ∧ (fs.foldl (pairStep i (typeOf r p.r)) P)[i]? = some p
 | [], P, h, hp, _ => ⟨h, hp⟩
 | f :: fs, P, h, hp, hf => path_fold fs _ (path_step h hp (hf f (List.mem_cons_self ..))) (step_keeps _ _ _ _ hp) (fun f' h' => hf f' (List.mem_cons_of_mem _ h'))
theorem path_go {w r : BookD} : ∀ (k i : Nat) (P : List PairD), PathOk w r P → PathOk w r (pairsGo w r k i P)
 | 0, _, _, h => h
 | k + 1, i, P, h => by
  rw [pairsGo]
  split
  ·exact h
  ·rename_i p hp
   exact path_go k (i + 1) _ (path_fold _ P h hp (fun _ h => h)).1
theorem go_keeps {w r : BookD} {j : Nat} {q : PairD} : ∀ (k i : Nat) (P : List PairD), P[j]? = some q → (pairsGo w r k i P)[j]? = some q
 | 0, _, _, h => h
 | k + 1, i, P, h => by
  rw [pairsGo]
  split
  ·exact h
  ·rename_i p hp
   refine go_keeps k (i + 1) _ ?_
   have : ∀ (fs : List FieldD) (L : List PairD), L[j]? = some q → (fs.foldl (pairStep i (typeOf r p.r)) L)[j]? = some q := by
    intro fs
    induction fs with
    | nil => exact fun L h => h
    | cons f fs ih => exact fun L h => ih _ (step_keeps _ _ _ _ h)
   exact this _ _ h
theorem findT_self {b : BookD} {n : ByteArray} (h : (findT b n).isSome = true) : findT b (typeOf b n).name = some (typeOf b n) := by
 obtain ⟨t, ht⟩ := Option.isSome_iff_exists.1 h
 have := (findT_some ht).2
 rw [typeOf_self ht, this]; exact ht
theorem wrap_law {w r : BookD} (hw : goodF w = 0) (hr : goodF r = 0) {P : List PairD} (hok : PairsOk w r P) (hpath : PathOk w r P) (hlen : P.length ≤ 16) (hmsg : ∀ p ∈ P, (typeOf w p.w).enum = false ∧ (typeOf r p.r).enum = false) :
  ∀ (k i : Nat) (p : PairD) (v : ValueD), P[i]? = some p → i < k → Bad w r (typeOf w p.w) (typeOf r p.r) v → countV v + 12 * i ≤ 400 → depthV v + i ≤ 24 → ∃ p0, P[0]? = some p0 ∧ Bad w r (typeOf w p0.w) (typeOf r p0.r) (wrapF w P k i v) ∧ countV (wrapF w P k i v) ≤ 400 ∧ depthV (wrapF w P k i v) ≤ 24
 | 0, i, p, v, _, h, _, _, _ => by omega
 | k + 1, i, p, v, hp, hk, hbad, hc, hd => by
  rw [wrapF, hp]
  simp only
  rcases hpath i p hp with ⟨rfl, h0⟩ | ⟨j, q, hj, e, hq, f, g, hf, hid, hf5, hfw, hg, hg5, hgr⟩
  ·rw [if_pos h0]
   exact ⟨p, hp, hbad, by omega, by omega⟩
  ·rw [if_neg (by omega), e]
   simp only [Int.toNat_natCast, hq, Option.map_some, Option.getD_some]
   have hqm := List.mem_of_getElem? hq
   obtain ⟨hq1, hq2⟩ := hok.2 q hqm
   obtain ⟨he1, he2⟩ := hmsg q hqm
   have hmw := good_msg hw (typeOf_mem hq1) he1
   have hmr := good_msg hr (typeOf_mem hq2) he2
   have hcount : countV (withF w (typeOf w q.w) p.id [v]) ≤ 12 + countV v := by
    have := withF_count hw (typeOf_mem hq1) he1 (findT_self hq1) p.id [v]
    simp only [countL] at this
    omega
   have hjl : j < P.length := by
    rcases Nat.lt_or_ge j P.length with h | h
    ·exact h
    ·rw [List.getElem?_eq_none h] at hq; cases hq
   have hdepth : depthV (withF w (typeOf w q.w) p.id [v]) ≤ max 5 (depthV v) + 1 := withF_depth w _ p.id [v] (D := max 5 (depthV v)) (by omega) (fun x hx => by rw [List.mem_singleton.1 hx]; omega)
   have hb2 := hbad
   rw [← hfw, ← hgr] at hb2
   obtain ⟨t1, t2⟩ := hb2
   obtain ⟨a1, a2, a3, a4, _⟩ := (typedF_iff w _ _).1 t1
   have ht : typedF w (typeOf w q.w) (withF w (typeOf w q.w) f.id [v]) = 0 := withF_typed hw hmw hf (by simp) (fun x hx => by rw [List.mem_singleton.1 hx]; exact ⟨fits_msg hf5 a1 a3 a4, fun _ => t1⟩) (.inl (by simp))
   have henc := (enc_ok hw _ _ _ (Nat.le_refl _) (by rw [hid]; omega) hmw ht).1
   have hbad' := bad_wrap hw hr hmw hmr hf hg hf5 hg5 ⟨t1, t2⟩ henc
   rw [hid] at hbad'
   exact wrap_law hw hr hok hpath hlen hmsg k j q _ hq (by omega) hbad' (by omega) (by omega)
theorem pairs_msg {w r : BookD} (hw : goodF w = 0) (hr : goodF r = 0) {P : List PairD} (hok : PairsOk w r P) (hpath : PathOk w r P) {p0 : PairD} (h0 : P[0]? = some p0) (e1 : (typeOf w p0.w).enum = false) (e2 : (typeOf r p0.r).enum = false) : ∀ p ∈ P, (typeOf w p.w).enum = false ∧ (typeOf r p.r).enum = false := by
 intro p hp
 obtain ⟨i, hi, rfl⟩ := List.getElem_of_mem hp
 rcases hpath i _ (List.getElem?_eq_getElem hi) with ⟨rfl, _⟩ | ⟨j, q, hj, _, hq, f, g, hf, _, hf5, hfw, hg, hg5, hgr⟩
 ·rw [List.getElem?_eq_getElem hi] at h0
  injection h0 with h0
  rw [h0]; exact ⟨e1, e2⟩
 ·have hqm := List.mem_of_getElem? hq
  obtain ⟨hq1, hq2⟩ := hok.2 q hqm
  have key : ∀ {b : BookD} (hb : goodF b = 0) {t : TypeD} (ht : t ∈ b) {f : FieldD} (hf : f ∈ t.fields) (h5 : f.kind = 5), (typeOf b f.type).enum = false := by
   intro b hb t ht f hf h5
   cases he : t.enum with
   | true =>
    have := (good_enum hb ht he).2.2.2.1
    rw [List.eq_nil_of_length_eq_zero this] at hf; cases hf
   | false =>
    obtain ⟨t2, _, h2, _, _, i2, _⟩ := field_msg hb (msg_field (good_msg hb ht he) hf) h5
    rw [h2]; exact i2
  rw [← hfw, ← hgr]
  exact ⟨key hw (typeOf_mem hq1) hf hf5, key hr (typeOf_mem hq2) (fieldOf_some hg).1 hg5⟩
theorem witness_law {w r : BookD} {name : ByteArray} (hb : bothF w r name = 0) : ((flawsF w r name).1 = [] → witnessF w r name = (.zero, 3)) ∧ ((flawsF w r name).1 ≠ [] → (witnessF w r name).2 = 0 ∧ TypedF w name (witnessF w r name).1 = 0 ∧
  ((DecodeF r name (encV (witnessF w r name).1).1).2 = 4 ∨ (DecodeF r name (encV (witnessF w r name).1).1).2 = 5 ∨ (DecodeF r name (encV (witnessF w r name).1).1).2 = 6)) := by
 obtain ⟨hw, hr, hn1, hn2⟩ := bothF_ok hb
 have hci := clear_iff hb
 refine ⟨fun h => ?_, fun h => ?_⟩
 ·unfold witnessF
  rw [if_neg (by simpa using hb), seekF_none.2 (hci.1 h)]
 ·have hok : PairsOk w r (pairsF w r name) := pairsGo_ok hw hr 18 0 _ (pairs_start hn1 hn2)
  have hpath : PathOk w r (pairsF w r name) := path_go 18 0 _ (by
   intro i p hp
   cases i with
   | zero =>
    simp only [List.getElem?_cons_zero, Option.some.injEq] at hp
    subst hp
    exact .inl ⟨rfl, (show (-1 : Int) < 0 by decide)⟩
   | succ i => simp at hp)
  have h0 : (pairsF w r name)[0]? = some ⟨name, name, -1, 0⟩ := go_keeps 18 0 _ rfl
  have hlen := sixteen hw hr hok
  have hmsg := pairs_msg hw hr hok hpath h0 (none_of hn1).2 (none_of hn2).2
  cases hs : seekF w r 0 (pairsF w r name) with
  | none => exact absurd (hci.2 (seekF_none.1 hs)) h
  | some x =>
   obtain ⟨i, p, f, g, y⟩ := x
   obtain ⟨k, hk, hp, hf, hg, hy⟩ := seekF_some hs
   obtain rfl : i = k := by omega
   have hwit : witnessF w r name = (wrapF w (pairsF w r name) (i + 1) i (withF w (typeOf w p.w) f.id (brokenL w r f g y)), 0) := by
    unfold witnessF
    rw [if_neg (by simpa using hb), hs]
   have hpm := List.mem_of_getElem? hp
   obtain ⟨hp1, hp2⟩ := hok.2 p hpm
   obtain ⟨he1, he2⟩ := hmsg p hpm
   have hmw := good_msg hw (typeOf_mem hp1) he1
   have hmr := good_msg hr (typeOf_mem hp2) he2
   obtain ⟨b1, b2, b3, b4, b5⟩ := broken_fits (r := r) hw hmw hf hy
   have hil : i < (pairsF w r name).length := by
    rcases Nat.lt_or_ge i (pairsF w r name).length with h | h
    ·exact h
    ·rw [List.getElem?_eq_none h] at hp; cases hp
   have hc := withF_count hw (typeOf_mem hp1) he1 (findT_self hp1) f.id (brokenL w r f g y)
   have hd := withF_depth w (typeOf w p.w) f.id (brokenL w r f g y) (D := 5) (by omega) b5
   have henc := (enc_ok hw _ _ _ (Nat.le_refl _) (by omega) hmw (withF_typed hw hmw hf b2 b1 b3)).1
   have hbad := bad_broken hw hr hmw hmr hf hg hy henc
   have hl16 : (pairsF w r name).length ≤ 16 := hlen
   obtain ⟨p0, hp0, ⟨t1, t2⟩, c1, c2⟩ := wrap_law hw hr hok hpath hlen hmsg (i + 1) i p _ hp (by omega) hbad (by omega) (by omega)
   rw [h0] at hp0
   injection hp0 with hp0
   subst hp0
   rw [hwit]
   generalize wrapF w (pairsF w r name) (i + 1) i (withF w (typeOf w p.w) f.id (brokenL w r f g y)) = v at t1 t2 c1 c2
   have hm1 := good_msg hw (typeOf_mem (none_of hn1).1) (none_of hn1).2
   have hm2 := good_msg hr (typeOf_mem (none_of hn2).1) (none_of hn2).2
   refine ⟨rfl, ?_, ?_⟩
   ·unfold TypedF
    rw [if_neg (by simpa using hw), if_neg (by rw [hn1]; decide), if_neg (by rw [small_iff.2 ⟨c2, c1⟩]; decide)]
    exact t1
   ·have he := (enc_ok hw _ _ _ (Nat.le_refl _) c1 hm1 t1).1
    have herr := (dec_errs hw hr 24 _ _ v hm1 hm2 c2 t1 he).1
    have hne := t2 24 c2
    have e : (DecodeF r name (encV v).1).2 = (decV r 24 (typeOf r name) (encV v).1).2 := by
     unfold DecodeF
     rw [if_neg (by simpa using hr), if_neg (by rw [hn2]; decide), if_pos hne]
    rw [e]
    exact herr.elim (fun h => absurd h hne) id
end Go.Proofs.YtfidfakcbjoilaaGreatDoor
