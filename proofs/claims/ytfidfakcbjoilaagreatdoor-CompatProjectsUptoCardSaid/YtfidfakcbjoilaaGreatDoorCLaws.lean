/- Several texts of walks and laws in one file; what each proves stands at its head. -/
import Derived.Test.YtfidfakcbjoilaaGreatDoorBase
import Derived.Test.YtfidfakcbjoilaaGreatDoorVLaws
set_option linter.all false
namespace Go.Proofs.YtfidfakcbjoilaaGreatDoor
open Go.RowKit
structure FlawD where
 type : ByteArray
 id : Int
 why : Int
 deriving DecidableEq
def flawCells (f : FlawD) : List Value := [.string f.type, .int .i64 f.id, .int .i64 f.why]
def RFlaw : Rel FlawD := RFlat flawCells
theorem RFlaw.fair : Fair RFlaw := RFlat.fair _
end Go.Proofs.YtfidfakcbjoilaaGreatDoor
namespace Go.Proofs.YtfidfakcbjoilaaGreatDoor
structure PairD where
 w : ByteArray
 r : ByteArray
 from_ : Int
 id : Int
def hasP (l : List PairD) (a b : ByteArray) : Bool := l.any fun p => decide (p.w = a ∧ p.r = b)
def pairStep (i : Nat) (t : TypeD) (l : List PairD) (f : FieldD) : List PairD := match fieldOf t f.id with
 | none => l
 | some g => if f.kind = 5 ∧ g.kind = 5 ∧ hasP l f.type g.type = false then l ++ [⟨f.type, g.type, i, f.id⟩] else l
def pairsGo (w r : BookD) : Nat → Nat → List PairD → List PairD
 | 0, _, l => l
 | k + 1, i, l => match l[i]? with
  | none => l
  | some p => pairsGo w r k (i + 1) ((typeOf w p.w).fields.foldl (pairStep i (typeOf r p.r)) l)
def pairsF (w r : BookD) (name : ByteArray) : List PairD := pairsGo w r 18 0 [⟨name, name, -1, 0⟩]
def numsOf (w : BookD) (f : FieldD) : List Int := if f.kind = 1 then [0, 1] else if f.kind = 4 then (typeOf w f.type).items.map (·.n) else [0, 1, 2, 3, 4, 5, 6]
def okN (r : BookD) (g : FieldD) (n : Int) : Bool := if g.kind = 1 then decide (n = 0 ∨ n = 1) else if g.kind = 4 then meansF (typeOf r g.type) n else true
def lacksF (w r : BookD) (f g : FieldD) : Option Int := (numsOf w f).find? fun n => !okN r g n
def whyA (w r : BookD) (f g : FieldD) : List Int := if kindOf f.kind ≠ kindOf g.kind then [1] else if kindOf f.kind = 0 ∧ (lacksF w r f g).isSome = true then [3] else []
def whyB (f g : FieldD) : List Int := if f.rule = 3 ∧ g.rule ≠ 3 then [2] else []
def whysF (w r : BookD) (f g : FieldD) : List Int := sortS (fun a b => decide (a < b)) (whyA w r f g ++ whyB f g)
def bothF (w r : BookD) (name : ByteArray) : Int := if goodF w ≠ 0 ∨ goodF r ≠ 0 then 1 else if noneB w name = true ∨ noneB r name = true then 3 else 0
def flawsOf (w r : BookD) (p : PairD) (f : FieldD) : List FlawD := match fieldOf (typeOf r p.r) f.id with
 | none => []
 | some g => (whysF w r f g).map fun y => ⟨p.w, f.id, y⟩
def flawsL (w r : BookD) (name : ByteArray) : List FlawD := (pairsF w r name).flatMap fun p => (typeOf w p.w).fields.flatMap (flawsOf w r p)
def ltFlaw (a b : FlawD) : Bool := decide (ltS a.type b.type) || (decide (a.type = b.type) && (decide (a.id < b.id) || (decide (a.id = b.id) && decide (a.why < b.why))))
def onceF : List FlawD → List FlawD
 | [] => []
 | [x] => [x]
 | x :: y :: l => if x = y then onceF (y :: l) else x :: onceF (y :: l)
def flawsF (w r : BookD) (name : ByteArray) : List FlawD × Int := if bothF w r name ≠ 0 then ([], bothF w r name) else (onceF (sortS ltFlaw (flawsL w r name)), 0)
mutual
def projV (r : BookD) : Nat → TypeD → ValueD → ValueD
 | 0, _, _ => .zero
 | k + 1, t, v => msgV ((t.fields.flatMap (projField r k v.ids v.l)).map (·.1)) ((t.fields.flatMap (projField r k v.ids v.l)).map (·.2))
def projField (r : BookD) : Nat → List Int → List ValueD → FieldD → List (Int × ValueD)
 | k, ids, l, f => if hasI ids f.id = false ∧ f.rule = 1 then [(f.id, leastOfF r 4 f)] else ((ids.zip l).filter fun p => decide (p.1 = f.id)).map fun p => (p.1, if f.kind = 5 then projV r k (typeOf r f.type) p.2 else p.2)
end
def projF (w r : BookD) (name : ByteArray) (v : ValueD) : ValueD × Int :=
 if bothF w r name ≠ 0 then (.zero, bothF w r name)
 else if TypedF w name v ≠ 0 then (.zero, TypedF w name v)
 else if (flawsF w r name).1 ≠ [] then (.zero, 8)
 else if smallF (projV r (depthV v) (typeOf r name) v) = false then (.zero, 7)
 else (projV r (depthV v) (typeOf r name) v, 0)
end Go.Proofs.YtfidfakcbjoilaaGreatDoor
namespace Go.Proofs.YtfidfakcbjoilaaGreatDoor
theorem nodup_le {α : Type} [DecidableEq α] : ∀ (L M : List α), L.Nodup → (∀ x ∈ L, x ∈ M) → L.length ≤ M.length
 | [], _, _, _ => Nat.zero_le _
 | x :: L, M, hn, hm => by
  have hx : x ∈ M := hm x (List.mem_cons_self ..)
  obtain ⟨h1, h2⟩ := List.nodup_cons.1 hn
  have ih := nodup_le L (M.erase x) h2 fun y hy => (List.mem_erase_of_ne (by rintro rfl; exact h1 hy)).2 (hm y (List.mem_cons_of_mem _ hy))
  rw [List.length_erase_of_mem hx] at ih
  have : 0 < M.length := List.length_pos_of_mem hx
  simp only [List.length_cons]
  omega
def keyP (p : PairD) : ByteArray × ByteArray := (p.w, p.r)
def PairsOk (w r : BookD) (l : List PairD) : Prop := (l.map keyP).Nodup ∧ ∀ p ∈ l, (findT w p.w).isSome = true ∧ (findT r p.r).isSome = true
theorem findT_mem {b : BookD} {n : ByteArray} (h : (findT b n).isSome = true) : n ∈ b.map (·.name) := by
 obtain ⟨t, ht⟩ := Option.isSome_iff_exists.1 h
 unfold findT at ht
 have hm := List.mem_of_find?_eq_some ht
 have hq := List.find?_some ht
 simp only [decide_eq_true_eq] at hq
 rw [← hq]
 exact List.mem_map_of_mem hm
theorem pairs_le {w r : BookD} {l : List PairD} (h : PairsOk w r l) : l.length ≤ w.length * r.length := by
 have := nodup_le (l.map keyP) ((w.map (·.name)).flatMap fun a => (r.map (·.name)).map fun b => (a, b)) h.1 fun x hx => by
  obtain ⟨p, hp, rfl⟩ := List.mem_map.1 hx
  exact List.mem_flatMap.2 ⟨p.w, findT_mem (h.2 p hp).1, List.mem_map.2 ⟨p.r, findT_mem (h.2 p hp).2, rfl⟩⟩
 rw [List.length_map] at this
 refine Nat.le_trans this ?_
 rw [List.length_flatMap]
 have e : ∀ l : List ByteArray, ((l.map fun a => ((r.map (·.name)).map fun b => (a, b)).length).sum) = l.length * r.length := by
  intro l
  induction l with
  | nil => simp
  | cons x l ih =>
   simp only [List.length_map] at ih
   simp only [List.map_cons, List.sum_cons, List.length_map, List.length_cons, Nat.add_mul, Nat.one_mul, ih]
   omega
 rw [e, List.length_map]
 exact Nat.le_refl _
theorem hasP_mem {l : List PairD} {a b : ByteArray} : hasP l a b = true ↔ (a, b) ∈ l.map keyP := by
 unfold hasP
 rw [List.any_eq_true, List.mem_map]
 constructor
 ·rintro ⟨p, hp, h⟩
  simp only [decide_eq_true_eq] at h
  exact ⟨p, hp, by unfold keyP; rw [h.1, h.2]⟩
 ·rintro ⟨p, hp, h⟩
  unfold keyP at h
  injection h with h1 h2
  exact ⟨p, hp, by simp [h1, h2]⟩
theorem pairs_step {w r : BookD} {l : List PairD} (hl : PairsOk w r l) {i : Nat} {t : TypeD} {f : FieldD} (hf : f.kind = 5 → (findT w f.type).isSome = true) (hg : ∀ g, fieldOf t f.id = some g → g.kind = 5 → (findT r g.type).isSome = true) : PairsOk w r (pairStep i t l f) := by
 unfold pairStep
 split
 ·exact hl
 ·rename_i g hgg
  split
  ·rename_i h
   obtain ⟨h1, h2, h3⟩ := h
   refine ⟨?_, fun p hp => ?_⟩
   ·rw [List.map_append, List.map_singleton]
    refine List.nodup_append.2 ⟨hl.1, by simp, fun a ha b hb => ?_⟩
    rw [List.mem_singleton] at hb
    subst hb
    rintro rfl
    have : hasP l f.type g.type = true := hasP_mem.2 ha
    rw [h3] at this; cases this
   ·rcases List.mem_append.1 hp with hp | hp
    ·exact hl.2 p hp
    ·rw [List.mem_singleton.1 hp]
     exact ⟨hf h1, hg g hgg h2⟩
  ·exact hl
theorem field_found {b : BookD} (hg : goodF b = 0) {t : TypeD} (ht : t ∈ b) {f : FieldD} (hf : f ∈ t.fields) (h5 : 4 ≤ f.kind) : (findT b f.type).isSome = true := by
 cases he : t.enum with
 | true =>
  have := (good_enum hg ht he).2.2.2.1
  rw [List.eq_nil_of_length_eq_zero this] at hf; cases hf
 | false => exact ((msg_field (good_msg hg ht he) hf).2.2.2.2.2.2.2.2 h5).1
theorem typeOf_mem {b : BookD} {n : ByteArray} (h : (findT b n).isSome = true) : typeOf b n ∈ b := by
 obtain ⟨t, ht⟩ := Option.isSome_iff_exists.1 h
 unfold typeOf
 rw [ht]
 unfold findT at ht
 exact List.mem_of_find?_eq_some ht
theorem fieldOf_in {t : TypeD} {id : Int} {f : FieldD} (h : fieldOf t id = some f) : f ∈ t.fields := by
 unfold fieldOf at h
 exact List.mem_of_find?_eq_some h
theorem pairs_fold {w r : BookD} (hw : goodF w = 0) (hr : goodF r = 0) {p : PairD} (hp : (findT w p.w).isSome = true ∧ (findT r p.r).isSome = true) {i : Nat} : ∀ (fs : List FieldD) (l : List PairD), (∀ f ∈ fs, f ∈ (typeOf w p.w).fields) → PairsOk w r l → PairsOk w r (fs.foldl (pairStep i (typeOf r p.r)) l)
 | [], _, _, h => h
 | f :: fs, l, hm, h => by
  rw [List.foldl_cons]
  refine pairs_fold hw hr hp fs _ (fun f hf => hm f (List.mem_cons_of_mem _ hf)) (pairs_step h (fun h5 => ?_) (fun g hg h5 => ?_))
  ·exact field_found hw (typeOf_mem hp.1) (hm f (List.mem_cons_self ..)) (by omega)
  ·exact field_found hr (typeOf_mem hp.2) (fieldOf_in hg) (by omega)
theorem step_grows (i : Nat) (t : TypeD) : ∀ (fs : List FieldD) (l : List PairD), ∃ m, fs.foldl (pairStep i t) l = l ++ m
 | [], l => ⟨[], by simp⟩
 | f :: fs, l => by
  rw [List.foldl_cons]
  obtain ⟨m, hm⟩ := step_grows i t fs (pairStep i t l f)
  have : ∃ m', pairStep i t l f = l ++ m' := by
   unfold pairStep
   split
   ·exact ⟨[], by simp⟩
   ·split
    ·exact ⟨_, rfl⟩
    ·exact ⟨[], by simp⟩
  obtain ⟨m', hm'⟩ := this
  exact ⟨m' ++ m, by rw [hm, hm', List.append_assoc]⟩
theorem none_of {b : BookD} {n : ByteArray} (h : noneB b n = false) : (findT b n).isSome = true ∧ (typeOf b n).enum = false := by
 unfold noneB at h
 unfold typeOf
 cases hf : findT b n with
 | none => rw [hf] at h; cases h
 | some t => rw [hf] at h; exact ⟨rfl, h⟩
theorem pairs_start {w r : BookD} {name : ByteArray} (h1 : noneB w name = false) (h2 : noneB r name = false) : PairsOk w r [⟨name, name, -1, 0⟩] :=
 ⟨by simp, fun p hp => by rw [List.mem_singleton.1 hp]; exact ⟨(none_of h1).1, (none_of h2).1⟩⟩
theorem bothF_ok {w r : BookD} {name : ByteArray} (h : bothF w r name = 0) : goodF w = 0 ∧ goodF r = 0 ∧ noneB w name = false ∧ noneB r name = false := by
 unfold bothF at h
 split at h
 ·cases h
 ·rename_i h1
  split at h
  ·cases h
  ·rename_i h2
   refine ⟨Classical.byContradiction fun h => h1 (.inl h), Classical.byContradiction fun h => h1 (.inr h), ?_, ?_⟩
   ·cases hh : noneB w name with
    | false => rfl
    | true => exact absurd (.inl hh) h2
   ·cases hh : noneB r name with
    | false => rfl
    | true => exact absurd (.inr hh) h2
theorem sixteen {w r : BookD} (hw : goodF w = 0) (hr : goodF r = 0) {l : List PairD} (h : PairsOk w r l) : l.length ≤ 16 := by
 have := pairs_le h
 have a := (good_parts hw).1
 have b := (good_parts hr).1
 have : w.length * r.length ≤ 4 * 4 := Nat.mul_le_mul a b
 omega
theorem pairsGo_ok {w r : BookD} (hw : goodF w = 0) (hr : goodF r = 0) : ∀ (k i : Nat) (l : List PairD), PairsOk w r l → PairsOk w r (pairsGo w r k i l)
 | 0, _, _, h => h
 | k + 1, i, l, h => by
  rw [pairsGo]
  split
  ·exact h
  ·rename_i p hp
   exact pairsGo_ok hw hr k (i + 1) _ (pairs_fold hw hr (h.2 p (List.mem_of_getElem? hp)) _ _ (fun _ h => h) h)
end Go.Proofs.YtfidfakcbjoilaaGreatDoor
namespace Go.Proofs.YtfidfakcbjoilaaGreatDoor
def SameP (l : List PairD) : Prop := ∀ p ∈ l, p.w = p.r
theorem fold_self {b : BookD} (hg : goodF b = 0) {t : TypeD} (ht : t ∈ b) (i : Nat) : ∀ (fs : List FieldD) (l : List PairD), (∀ f ∈ fs, f ∈ t.fields) → SameP l → SameP (fs.foldl (pairStep i t) l)
 | [], _, _, h => h
 | f :: fs, l, hm, h => by
  rw [List.foldl_cons]
  refine fold_self hg ht i fs _ (fun f hf => hm f (List.mem_cons_of_mem _ hf)) ?_
  unfold pairStep
  split
  ·exact h
  ·rename_i g hgg
   split
   ·intro p hp
    rcases List.mem_append.1 hp with hp | hp
    ·exact h p hp
    ·rw [List.mem_singleton.1 hp]
     have hf := hm f (List.mem_cons_self ..)
     cases he : t.enum with
     | true =>
      have := (good_enum hg ht he).2.2.2.1
      rw [List.eq_nil_of_length_eq_zero this] at hf; cases hf
     | false =>
      rw [fieldOf_mem (good_msg hg ht he) hf] at hgg
      injection hgg with e
      show f.type = g.type
      rw [e]
   ·exact h
theorem pairs_self {b : BookD} (hg : goodF b = 0) : ∀ (k i : Nat) (l : List PairD), PairsOk b b l → SameP l → SameP (pairsGo b b k i l)
 | 0, _, _, _, h => h
 | k + 1, i, l, ho, h => by
  rw [pairsGo]
  split
  ·exact h
  ·rename_i p hp
   have hpm := List.mem_of_getElem? hp
   have e := h p hpm
   have hf := pairs_fold hg hg (i := i) (ho.2 p hpm) (typeOf b p.w).fields l (fun _ h => h) ho
   refine pairs_self hg k (i + 1) _ hf ?_
   rw [← e]
   exact fold_self hg (typeOf_mem (ho.2 p hpm).1) i _ _ (fun _ h => h) h
theorem whys_self {b : BookD} {f : FieldD} (h1 : 1 ≤ f.kind) (h5 : f.kind ≤ 5) : whysF b b f f = [] := by
 have hl : kindOf f.kind = 0 → lacksF b b f f = none := by
  intro h0
  unfold lacksF
  rw [List.find?_eq_none]
  intro n hn
  have hc : f.kind = 1 ∨ f.kind = 2 ∨ f.kind = 4 := by
   unfold kindOf at h0
   split at h0
   ·cases h0
   ·split at h0
    ·cases h0
    ·omega
  unfold numsOf at hn
  unfold okN
  rcases hc with e | e | e
  ·rw [if_pos e] at hn ⊢
   rcases List.mem_cons.1 hn with rfl | hn
   ·simp
   ·rw [List.mem_singleton.1 hn]; simp
  ·rw [if_neg (by omega), if_neg (by omega)]; simp
  ·rw [if_neg (by omega), if_pos e] at hn ⊢
   obtain ⟨x, hx, rfl⟩ := List.mem_map.1 hn
   have : meansF (typeOf b f.type) x.n = true := List.any_eq_true.2 ⟨x, hx, by simp⟩
   rw [this]; simp
 have ha : whyA b b f f = [] := by
  unfold whyA
  rw [if_neg (by simp), if_neg]
  rintro ⟨h0, h2⟩
  rw [hl h0] at h2; cases h2
 have hb : whyB f f = [] := by unfold whyB; rw [if_neg (fun h => h.2 h.1)]
 unfold whysF
 rw [ha, hb]; rfl
theorem flawsL_self {b : BookD} {name : ByteArray} (hg : goodF b = 0) (hn : noneB b name = false) : flawsL b b name = [] := by
 have ho := pairsGo_ok hg hg 18 0 _ (pairs_start hn hn)
 have hs := pairs_self hg 18 0 _ (pairs_start hn hn) (fun p hp => by rw [List.mem_singleton.1 hp])
 unfold flawsL
 rw [List.flatMap_eq_nil_iff]
 intro p hp
 rw [List.flatMap_eq_nil_iff]
 intro f hf
 have ht := typeOf_mem (ho.2 p hp).1
 unfold flawsOf
 rw [← hs p hp]
 cases he : (typeOf b p.w).enum with
 | true =>
  have := (good_enum hg ht he).2.2.2.1
  rw [List.eq_nil_of_length_eq_zero this] at hf; cases hf
 | false =>
  have hm := good_msg hg ht he
  rw [fieldOf_mem hm hf]
  have hp := msg_field hm hf
  show (whysF b b f f).map _ = []
  rw [whys_self hp.2.2.2.1 hp.2.2.2.2.1]; rfl
theorem flaws_self {b : BookD} {name : ByteArray} : (flawsF b b name).1 = [] := by
 unfold flawsF
 split
 ·rfl
 ·rename_i h
  obtain ⟨h1, -, h2, -⟩ := bothF_ok (Classical.byContradiction h)
  rw [flawsL_self h1 h2]; rfl
theorem proj_self {b : BookD} (hg : goodF b = 0) : ∀ (k : Nat) (v : ValueD) (t : TypeD), depthV v ≤ k → MessageP b t → typedF b t v = 0 → projV b k t v = v
 | 0, .mk _ _ _ _ _, _, hd, _, _ => by rw [depthV] at hd; omega
 | k + 1, .mk kind n s ids l, t, hd, hm, ht => by
  obtain ⟨a1, a2, a3, a4, a5, a6, a7, a8⟩ := (typedF_iff b t _).1 ht
  simp only [ValueD.kind, ValueD.ids, ValueD.l, ValueD.n, ValueD.s] at a1 a2 a3 a4 a5 a6 a7 a8
  subst a1 a3
  have hdl : ∀ x ∈ l, depthV x ≤ k := by
   intro x hx
   have := depthL_mem hx
   rw [depthV] at hd
   omega
  have e1 : ∀ f ∈ t.fields, projField b k ids l f = (ids.zip l).filter fun p => decide (p.1 = f.id) := by
   intro f hf
   unfold projField
   rw [if_neg]
   ·refine (List.map_congr_left fun p hp => ?_).trans (List.map_id' _)
    obtain ⟨hp1, hp2⟩ := List.mem_filter.1 hp
    simp only [decide_eq_true_eq] at hp2
    have hfit := a7 p hp1
    unfold FitP at hfit
    rw [hp2, fieldOf_mem hm hf] at hfit
    split
    ·rename_i h5
     obtain ⟨t2, _, h2, _, _, _, hm2⟩ := field_msg hg (msg_field hm hf) h5
     have := hfit.2 h5
     rw [h2, proj_self hg k p.2 t2 (hdl _ (List.of_mem_zip hp1).2) hm2 (by rw [← h2]; exact this)]
    ·rfl
   ·rintro ⟨h1, h2⟩
    have := List.all_eq_true.1 a8 f hf
    simp [h1, h2] at this
  have e2 : t.fields.flatMap (projField b k ids l) = ids.zip l := by
   have : t.fields.flatMap (projField b k ids l) = (t.fields.map (·.id)).flatMap (fun i => (ids.zip l).filter fun p => decide (p.1 = i)) := by
    rw [List.flatMap_map]
    rw [List.flatMap_def, List.flatMap_def, List.map_congr_left e1]
   rw [this]
   refine flatMap_filter _ _ ?_ ((zip_pair ids l a6).imp fun h => h.1) ?_
   ·rw [List.pairwise_map]; exact msg_sorted hm
   ·intro p hp
    have := a5 p.1 (List.of_mem_zip hp).1
    obtain ⟨f, hf⟩ := Option.isSome_iff_exists.1 this
    have := fieldOf_some hf
    exact List.mem_map.2 ⟨f, this.1, this.2⟩
  rw [projV]
  simp only [ValueD.ids, ValueD.l]
  rw [e2, zip_fst _ _ a2, zip_snd _ _ a2, ba_size0 a4]
  rfl
theorem projF_self {b : BookD} {name : ByteArray} {v : ValueD} (h : (projF b b name v).2 = 0) : projF b b name v = (v, 0) := by
 unfold projF at h ⊢
 split at h
 ·rename_i h1; exact absurd h h1
 ·rename_i h1
  rw [if_neg h1]
  split at h
  ·rename_i h2; exact absurd h h2
  ·rename_i h2
   rw [if_neg h2]
   obtain ⟨hg, hn, hs, ht⟩ := TypedF_ok (Classical.byContradiction h2)
   obtain ⟨t, _, e, hm, _, he⟩ := noneB_type hn
   have e2 := proj_self hg (depthV v) v (typeOf b name) (Nat.le_refl _) (by rw [e]; exact good_msg hg hm he) ht
   rw [if_neg (by rw [flaws_self]; simp), e2, if_neg (by rw [hs]; simp)]
end Go.Proofs.YtfidfakcbjoilaaGreatDoor
namespace Go.Proofs.YtfidfakcbjoilaaGreatDoor
def ClosedAt (w r : BookD) (l : List PairD) (p : PairD) : Prop := ∀ f ∈ (typeOf w p.w).fields, ∀ g, fieldOf (typeOf r p.r) f.id = some g → f.kind = 5 → g.kind = 5 → hasP l f.type g.type = true
theorem hasP_append {l m : List PairD} {a b : ByteArray} (h : hasP l a b = true) : hasP (l ++ m) a b = true := by
 unfold hasP at h ⊢
 rw [List.any_append, h]; rfl
theorem ClosedAt.mono {w r : BookD} {l m : List PairD} {p : PairD} (h : ClosedAt w r l p) : ClosedAt w r (l ++ m) p := fun f hf g hg h5 h6 => hasP_append (h f hf g hg h5 h6)
theorem fold_closed (i : Nat) (t : TypeD) : ∀ (fs : List FieldD) (l : List PairD), ∀ f ∈ fs, ∀ g, fieldOf t f.id = some g → f.kind = 5 → g.kind = 5 → hasP (fs.foldl (pairStep i t) l) f.type g.type = true
 | [], _, f, hf, _, _, _, _ => by cases hf
 | f0 :: fs, l, f, hf, g, hg, h5, h6 => by
  rw [List.foldl_cons]
  rcases List.mem_cons.1 hf with rfl | hf
  ·obtain ⟨m, hm⟩ := step_grows i t fs (pairStep i t l f)
   rw [hm]
   refine hasP_append ?_
   unfold pairStep
   rw [hg]
   dsimp only
   split
   ·unfold hasP; rw [List.any_append]; simp
   ·rename_i h
    cases hp : hasP l f.type g.type with
    | true => rfl
    | false => exact absurd ⟨h5, h6, hp⟩ h
  ·exact fold_closed i t fs _ f hf g hg h5 h6
theorem pairsGo_closed {w r : BookD} (hw : goodF w = 0) (hr : goodF r = 0) : ∀ (k i : Nat) (l : List PairD), PairsOk w r l → 17 < i + k → (∀ j (_ : j < i) (h : j < l.length), ClosedAt w r l l[j]) → ∀ p ∈ pairsGo w r k i l, ClosedAt w r (pairsGo w r k i l) p
 | 0, i, l, ho, hi, hc => by
  intro p hp
  obtain ⟨j, hj, rfl⟩ := List.getElem_of_mem hp
  have hj' : j < l.length := hj
  have := sixteen hw hr ho
  exact hc j (by omega) hj'
 | k + 1, i, l, ho, hi, hc => by
  have h16 := sixteen hw hr ho
  rw [pairsGo]
  split
  ·rename_i hn
   intro p hp
   obtain ⟨j, hj, rfl⟩ := List.getElem_of_mem hp
   have : l.length ≤ i := by
    rcases Nat.lt_or_ge i l.length with h | h
    ·rw [List.getElem?_eq_getElem h] at hn; cases hn
    ·exact h
   exact hc j (by omega) hj
  ·rename_i p hp
   have hpm := List.mem_of_getElem? hp
   have hf := pairs_fold hw hr (i := i) (ho.2 p hpm) (typeOf w p.w).fields l (fun _ h => h) ho
   obtain ⟨m, hm⟩ := step_grows i (typeOf r p.r) (typeOf w p.w).fields l
   refine pairsGo_closed hw hr k (i + 1) _ hf (by omega) ?_
   intro j hj hjl
   by_cases hji : j = i
   ·subst hji
    have hlt : j < l.length := by
     rcases Nat.lt_or_ge j l.length with h | h
     ·exact h
     ·rw [List.getElem?_eq_none h] at hp; cases hp
    have e : ((typeOf w p.w).fields.foldl (pairStep j (typeOf r p.r)) l)[j] = p := by
     have : ((typeOf w p.w).fields.foldl (pairStep j (typeOf r p.r)) l)[j]? = some p := by
      rw [hm, List.getElem?_append_left hlt]; exact hp
     rw [List.getElem?_eq_getElem hjl] at this
     injection this
    rw [e]
    exact fold_closed j _ _ l
   ·have hlt : j < l.length := by
     have : i < l.length := by
      rcases Nat.lt_or_ge i l.length with h | h
      ·exact h
      ·rw [List.getElem?_eq_none h] at hp; cases hp
     omega
    have e : ((typeOf w p.w).fields.foldl (pairStep i (typeOf r p.r)) l)[j] = l[j] := by
     have : ((typeOf w p.w).fields.foldl (pairStep i (typeOf r p.r)) l)[j]? = some l[j] := by
      rw [hm, List.getElem?_append_left hlt]; exact List.getElem?_eq_getElem hlt
     rw [List.getElem?_eq_getElem hjl] at this
     injection this
    rw [e, hm]
    exact (hc j (by omega) hlt).mono
theorem whys_none {w r : BookD} {f g : FieldD} (h : whysF w r f g = []) : kindOf f.kind = kindOf g.kind ∧ (kindOf f.kind = 0 → lacksF w r f g = none) ∧ (f.rule = 3 → g.rule = 3) := by
 unfold whysF at h
 have hl := congrArg List.length h
 rw [sortS_len, List.length_append, List.length_nil] at hl
 have ha : whyA w r f g = [] := List.eq_nil_of_length_eq_zero (by omega)
 have hb : whyB f g = [] := List.eq_nil_of_length_eq_zero (by omega)
 unfold whyA at ha
 unfold whyB at hb
 split at ha
 ·cases ha
 ·rename_i h1
  split at ha
  ·cases ha
  ·rename_i h2
   refine ⟨Classical.byContradiction h1, fun h0 => ?_, fun h3 => ?_⟩
   ·cases hc : lacksF w r f g with
    | none => rfl
    | some n => exact absurd ⟨h0, by rw [hc]; rfl⟩ h2
   ·split at hb
    ·cases hb
    ·rename_i h4; exact Classical.byContradiction fun h5 => h4 ⟨h3, h5⟩
theorem kindOf_zero {k : Int} (h1 : 1 ≤ k) (h5 : k ≤ 5) : kindOf k = 0 ↔ k = 1 ∨ k = 2 ∨ k = 4 := by
 unfold kindOf
 split
 ·simp; omega
 ·split
  ·simp; omega
  ·simp; omega
theorem means_in {t : TypeD} {n : Int} : meansF t n = true ↔ n ∈ t.items.map (·.n) := by
 unfold meansF
 rw [List.any_eq_true, List.mem_map]
 constructor
 ·rintro ⟨x, hx, h⟩; exact ⟨x, hx, by simpa using h⟩
 ·rintro ⟨x, hx, h⟩; exact ⟨x, hx, by simpa using h⟩
theorem number_over {w r : BookD} (hw : goodF w = 0) (hr : goodF r = 0) {f g : FieldD} (hf : fieldP w f) (hg : fieldP r g) (hk : kindOf f.kind = kindOf g.kind) (h0 : kindOf f.kind = 0) (hl : lacksF w r f g = none) {x : ValueD} (hx : fitsF w f x = 0) :
  okN r g x.n = true ∧ -1099511627776 ≤ x.n ∧ x.n ≤ 1099511627776 := by
 obtain ⟨hx1, hx2⟩ := fits_kind hx
 have hnum : ∀ n ∈ numsOf w f, okN r g n = true := by
  intro n hn
  unfold lacksF at hl
  have := List.find?_eq_none.1 hl n hn
  simpa using this
 have hrest := hx
 unfold fitsF at hrest
 rw [if_neg (by simpa using hx1), if_neg (by rw [hx2]; decide)] at hrest
 rcases (kindOf_zero hf.2.2.2.1 hf.2.2.2.2.1).1 h0 with e | e | e
 ·rw [if_pos e] at hrest
  have hn : x.n = 0 ∨ x.n = 1 := by
   split at hrest
   ·assumption
   ·cases hrest
  refine ⟨hnum x.n ?_, by omega, by omega⟩
  unfold numsOf
  rw [if_pos e]
  rcases hn with h | h <;> rw [h] <;> simp
 ·rw [if_neg (by omega), if_pos e] at hrest
  have hn : -1099511627776 ≤ x.n ∧ x.n ≤ 1099511627776 := by
   split at hrest
   ·cases hrest
   ·rename_i h; omega
  refine ⟨?_, hn⟩
  have hall : ∀ n ∈ ([0, 1, 2, 3, 4, 5, 6] : List Int), okN r g n = true := by
   intro n hn
   refine hnum n ?_
   unfold numsOf
   rw [if_neg (by omega), if_neg (by omega)]; exact hn
  rcases (kindOf_zero hg.2.2.2.1 hg.2.2.2.2.1).1 (by rw [← hk]; exact h0) with e2 | e2 | e2
  ·have := hall 2 (by simp)
   unfold okN at this
   rw [if_pos e2] at this
   simp at this
  ·unfold okN
   rw [if_neg (by omega), if_neg (by omega)]
  ·obtain ⟨t, -, ht, -, he⟩ := field_enum hr hg e2
   have hin : ∀ n ∈ ([0, 1, 2, 3, 4, 5, 6] : List Int), n ∈ (typeOf r g.type).items.map (·.n) := by
    intro n hn
    have := hall n hn
    unfold okN at this
    rw [if_neg (by omega), if_pos e2] at this
    exact means_in.1 this
   have := nodup_le [0, 1, 2, 3, 4, 5, 6] _ (by decide) hin
   rw [List.length_map, ht] at this
   have h6 := he.2.2.1
   simp only [List.length_cons, List.length_nil] at this
   omega
 ·rw [if_neg (by omega), if_neg (by omega), if_neg (by omega), if_pos e] at hrest
  have hm : meansF (typeOf w f.type) x.n = true := by
   unfold typeOf
   split at hrest
   ·assumption
   ·cases hrest
  have hmem := means_in.1 hm
  refine ⟨hnum x.n ?_, ?_⟩
  ·unfold numsOf
   rw [if_neg (by omega), if_pos e]; exact hmem
  ·obtain ⟨t, -, ht, -, he⟩ := field_enum hw hf e
   rw [ht] at hmem
   obtain ⟨y, hy, hyn⟩ := List.mem_map.1 hmem
   obtain ⟨i, hi, rfl⟩ := List.getElem_of_mem hy
   have := he.1 i hi
   rw [← hyn]
   exact ⟨this.2.1, this.2.2.1⟩
theorem fits_over {w r : BookD} (hw : goodF w = 0) (hr : goodF r = 0) {f g : FieldD} (hf : fieldP w f) (hg : fieldP r g) (hy : whysF w r f g = []) {x : ValueD} (hx : fitsF w f x = 0) (id : Int) (inner : List UInt8) :
  fitsF r g (bareV (partOf id x inner)) = 0 ∧ (f.kind = 5 ↔ g.kind = 5) := by
 obtain ⟨hk, hl, -⟩ := whys_none hy
 have h1f := hf.2.2.2.1
 have h5f := hf.2.2.2.2.1
 have h1g := hg.2.2.2.1
 have h5g := hg.2.2.2.2.1
 have h55 : f.kind = 5 ↔ g.kind = 5 := by
  constructor
  ·intro h
   rw [h] at hk
   unfold kindOf at hk
   simp only [show ¬ ((5 : Int) = 3) by decide, if_false, if_true] at hk
   split at hk
   ·cases hk
   ·split at hk
    ·assumption
    ·cases hk
  ·intro h
   rw [h] at hk
   unfold kindOf at hk
   simp only [show ¬ ((5 : Int) = 3) by decide, if_false, if_true] at hk
   split at hk
   ·cases hk
   ·split at hk
    ·assumption
    ·cases hk
 refine ⟨?_, h55⟩
 obtain ⟨hx1, hx2⟩ := fits_kind hx
 by_cases h5 : f.kind = 5
 ·have h2 : x.kind = 2 := by rw [hx1, h5]; rfl
  obtain ⟨o1, o2, o3⟩ := odd_iff.1 hx2
  refine fits_msg (h55.1 h5) ?_ ?_ ?_
  ·exact h2
  ·exact o2 (by rw [h2]; decide)
  ·show (if x.kind = 1 then _ else _ : ByteArray).size = 0
   rw [if_neg (by rw [h2]; decide)]; rfl
 ·rw [(bare_part hx id inner).2 h5]
  have hg5 : ¬ g.kind = 5 := fun h => h5 (h55.2 h)
  unfold fitsF
  rw [if_neg (by rw [hx1, hk]; simp), if_neg (by rw [hx2]; decide)]
  by_cases h0 : kindOf f.kind = 0
  ·obtain ⟨hn, hb1, hb2⟩ := number_over hw hr hf hg hk h0 (hl h0) hx
   unfold okN at hn
   rcases (kindOf_zero h1g h5g).1 (by rw [← hk]; exact h0) with e | e | e
   ·rw [if_pos e] at hn ⊢
    rw [if_pos (by simpa using hn)]
   ·rw [if_neg (by omega), if_pos e, if_neg (by omega)]
   ·rw [if_neg (by omega), if_pos e] at hn
    rw [if_neg (by omega), if_neg (by omega), if_neg (by omega), if_pos e]
    unfold typeOf at hn
    rw [hn]; rfl
  ·have hf3 : f.kind = 3 := by
    have := mt (kindOf_zero h1f h5f).2 h0
    omega
   have hg3 : g.kind = 3 := by
    have := mt (kindOf_zero h1g h5g).2 (by rw [← hk]; exact h0)
    omega
   have hrest := hx
   unfold fitsF at hrest
   rw [if_neg (by simpa using hx1), if_neg (by rw [hx2]; decide), if_neg (by omega), if_neg (by omega), if_pos hf3] at hrest
   rw [if_neg (by omega), if_neg (by omega), if_pos hg3]
   exact hrest
def ClearP (w r : BookD) (l : List PairD) : Prop := ∀ p ∈ l, ∀ f ∈ (typeOf w p.w).fields, ∀ g, fieldOf (typeOf r p.r) f.id = some g → whysF w r f g = []
theorem clear_of {w r : BookD} {name : ByteArray} (h : flawsL w r name = []) : ClearP w r (pairsF w r name) := by
 intro p hp f hf g hg
 have h1 := List.flatMap_eq_nil_iff.1 h p hp
 have h2 := List.flatMap_eq_nil_iff.1 h1 f hf
 unfold flawsOf at h2
 rw [hg] at h2
 exact List.map_eq_nil_iff.1 h2
theorem onceF_nil : ∀ {l : List FlawD}, onceF l = [] → l = []
 | [], _ => rfl
 | [x], h => by simp [onceF] at h
 | x :: y :: l, h => by
  rw [onceF] at h
  split at h
  ·exact absurd (onceF_nil h) (by simp)
  ·cases h
theorem flawsF_none {w r : BookD} {name : ByteArray} (hb : bothF w r name = 0) (h : (flawsF w r name).1 = []) : flawsL w r name = [] := by
 unfold flawsF at h
 rw [if_neg (by simpa using hb)] at h
 have := onceF_nil h
 have hl := congrArg List.length this
 rw [sortS_len] at hl
 exact List.eq_nil_of_length_eq_zero hl
def keepZ (r : BookD) (k : Nat) (t : TypeD) (z : List (Int × ValueD)) : List (Int × ValueD) := (z.filter fun p => (fieldOf t p.1).isSome).map fun p => (p.1, if ((fieldOf t p.1).getD .zero).kind = 5 then projV r k (typeOf r ((fieldOf t p.1).getD .zero).type) p.2 else p.2)
theorem keepZ_cons_none {r : BookD} {k : Nat} {t : TypeD} {p : Int × ValueD} {z : List (Int × ValueD)} (h : fieldOf t p.1 = none) : keepZ r k t (p :: z) = keepZ r k t z := by
 unfold keepZ
 rw [List.filter_cons_of_neg (by rw [h]; simp)]
theorem keepZ_cons_some {r : BookD} {k : Nat} {t : TypeD} {p : Int × ValueD} {z : List (Int × ValueD)} {g : FieldD} (h : fieldOf t p.1 = some g) : keepZ r k t (p :: z) = (p.1, if g.kind = 5 then projV r k (typeOf r g.type) p.2 else p.2) :: keepZ r k t z := by
 unfold keepZ
 rw [List.filter_cons_of_pos (by rw [h]; rfl), List.map_cons, h]
 rfl
theorem decGo_over {w r : BookD} (hw : goodF w = 0) (hr : goodF r = 0) {tw tr : TypeD} (hmw : MessageP w tw) (hmr : MessageP r tr) {k : Nat} {rec : TypeD → List UInt8 → ValueD × Int} (hc : ∀ f ∈ tw.fields, ∀ g, fieldOf tr f.id = some g → whysF w r f g = [])
  (hrec : ∀ f ∈ tw.fields, ∀ g, fieldOf tr f.id = some g → f.kind = 5 → g.kind = 5 → ∀ x, depthV x ≤ k → typedF w (typeOf w f.type) x = 0 → (encV x).2 = 0 → rec (typeOf r g.type) (encV x).1 = (projV r k (typeOf r g.type) x, 0)) : ∀ (l : List ValueD) (ids : List Int) (last : Option Int) (ai : List Int) (al : List ValueD), ids.length = l.length →
  (∀ id ∈ ids, (fieldOf tw id).isSome = true ∧ ∀ k, last = some k → Follow tw k id) → ids.Pairwise (Follow tw) → (∀ p ∈ ids.zip l, FitP w tw p.1 p.2) →
  (∀ i ∈ ai, ∃ k, last = some k ∧ i ≤ k) → (∀ x ∈ l, depthV x ≤ k) → (∀ x ∈ l, x.kind = 2 → (encV x).2 = 0) →
  decGo r rec tr last (partsL ids l) ai al = ((ai ++ (keepZ r k tr (ids.zip l)).map (·.1), al ++ (keepZ r k tr (ids.zip l)).map (·.2)), 0)
 | [], ids, last, ai, al, h, _, _, _, _, _, _ => by
  have : ids = [] := List.eq_nil_of_length_eq_zero (by simpa using h)
  subst this; simp [partsL, decGo, keepZ]
 | x :: l, [], last, ai, al, h, _, _, _, _, _, _ => by simp at h
 | x :: l, id :: ids, last, ai, al, h, hk, hp, hf, ha, hd, he => by
  have hid := hk id (by simp)
  obtain ⟨f, hff⟩ := Option.isSome_iff_exists.1 hid.1
  have hfit := hf (id, x) (by simp)
  unfold FitP at hfit
  simp only [hff, Option.getD_some] at hfit
  obtain ⟨hfm, hfi⟩ := fieldOf_some hff
  have hp' := List.pairwise_cons.1 hp
  have hfall : fallsF last (partOf id x (encV x).1).id = false := by
   unfold fallsF
   cases hl : last with
   | none => rfl
   | some k => exact decide_eq_false (Int.not_lt.2 (hid.2 k hl).1)
  have hpid : (partOf id x (encV x).1).id = id := rfl
  rw [partsL, decGo, if_neg (by rw [hfall]; decide), hpid, List.zip_cons_cons]
  cases hgg : fieldOf tr id with
  | none =>
   simp only
   rw [keepZ_cons_none hgg]
   exact decGo_over hw hr hmw hmr hc hrec l ids (some id) ai al (by simpa using h) (fun i hi => ⟨(hk i (by simp [hi])).1, fun k hk' => by cases hk'; exact hp'.1 i hi⟩) hp'.2 (fun p hp => hf p (by simp [hp]))
    (fun i hi => by
     obtain ⟨k, hk1, hk2⟩ := ha i hi
     have := (hid.2 k hk1).1
     exact ⟨id, rfl, by omega⟩) (fun y hy => hd y (by simp [hy])) (fun y hy => he y (by simp [hy]))
  | some g =>
   simp only
   obtain ⟨hgm, hgi⟩ := fieldOf_some hgg
   have hgg' : fieldOf tr f.id = some g := by rw [hfi]; exact hgg
   have hy := hc f hfm g hgg'
   obtain ⟨q1, q5⟩ := fits_over hw hr (msg_field hmw hfm) (msg_field hmr hgm) hy hfit.1 id (encV x).1
   have htwice : ¬ (g.rule ≠ 3 ∧ hasI ai id = true) := by
    rintro ⟨h1, h2⟩
    rw [hasI_iff] at h2
    obtain ⟨k, hk1, hk2⟩ := ha id h2
    have := hid.2 k hk1
    have e : k = id := by have := this.1; omega
    have := this.2 e
    rw [e, hff] at this
    exact h1 ((whys_none hy).2.2 this)
   rw [if_neg (by simpa using q1), if_neg htwice, keepZ_cons_some hgg]
   have ih := fun (y : ValueD) => decGo_over hw hr hmw hmr hc hrec l ids (some id) (ai ++ [id]) (al ++ [y]) (by simpa using h) (fun i hi => ⟨(hk i (by simp [hi])).1, fun k hk' => by cases hk'; exact hp'.1 i hi⟩) hp'.2 (fun p hp => hf p (by simp [hp]))
    (fun i hi => by
     rcases List.mem_append.1 hi with hi | hi
     ·obtain ⟨k, hk1, hk2⟩ := ha i hi
      have := (hid.2 k hk1).1
      exact ⟨id, rfl, by omega⟩
     ·simp at hi; exact ⟨id, rfl, by omega⟩) (fun y hy => hd y (by simp [hy])) (fun y hy => he y (by simp [hy]))
   by_cases h5 : g.kind = 5
   ·have hf5 := q5.2 h5
    have hx2 : x.kind = 2 := by rw [(fits_kind hfit.1).1, hf5]; rfl
    have hs : bytes (partOf id x (encV x).1).s = (encV x).1 := by simp only [partOf, if_pos hx2]
    have := hrec f hfm g hgg' hf5 h5 x (hd x (by simp)) (hfit.2 hf5) (he x (by simp) hx2)
    rw [if_pos h5, hs, this, if_pos h5]
    simp only [ne_eq, not_true, if_false]
    rw [ih]
    simp
   ·have hf5 : f.kind ≠ 5 := fun h => h5 (q5.1 h)
    rw [if_neg h5, if_neg h5, (bare_part hfit.1 id (encV x).1).2 hf5, ih]
    simp
theorem keepZ_filter {r : BookD} {k : Nat} {t : TypeD} {i : Int} {g : FieldD} (h : fieldOf t i = some g) : ∀ z : List (Int × ValueD), (keepZ r k t z).filter (fun p => decide (p.1 = i)) = (z.filter fun p => decide (p.1 = i)).map fun p => (p.1, if g.kind = 5 then projV r k (typeOf r g.type) p.2 else p.2)
 | [] => rfl
 | p :: z => by
  by_cases e : p.1 = i
  ·rw [keepZ_cons_some (by rw [e]; exact h), List.filter_cons_of_pos (by simpa using e), List.filter_cons_of_pos (by simpa using e), List.map_cons, keepZ_filter h z]
  ·rw [List.filter_cons_of_neg (by simpa using e)]
   cases hp : fieldOf t p.1 with
   | none => rw [keepZ_cons_none hp, keepZ_filter h z]
   | some g' => rw [keepZ_cons_some hp, List.filter_cons_of_neg (by simpa using e), keepZ_filter h z]
theorem zip_map_both {α β : Type} : ∀ l : List (α × β), (l.map (·.1)).zip (l.map (·.2)) = l
 | [] => rfl
 | (a, b) :: l => by simp [zip_map_both l]
theorem hasI_filter {z : List (Int × ValueD)} {i : Int} : hasI (z.map (·.1)) i = true ↔ z.filter (fun p => decide (p.1 = i)) ≠ [] := by
 rw [hasI_iff, List.mem_map]
 constructor
 ·rintro ⟨p, hp, e⟩ h
  have : p ∈ z.filter (fun p => decide (p.1 = i)) := List.mem_filter.2 ⟨hp, by simpa using e⟩
  rw [h] at this; cases this
 ·intro h
  obtain ⟨p, hp⟩ := List.exists_mem_of_ne_nil _ h
  obtain ⟨h1, h2⟩ := List.mem_filter.1 hp
  exact ⟨p, h1, by simpa using h2⟩
theorem filled_over {r : BookD} {tr : TypeD} (hm : MessageP r tr) (k : Nat) {ids : List Int} {l : List ValueD} (hl : ids.length = l.length) :
  filledF r 4 tr ((keepZ r k tr (ids.zip l)).map (·.1)) ((keepZ r k tr (ids.zip l)).map (·.2)) = msgV ((tr.fields.flatMap (projField r k ids l)).map (·.1)) ((tr.fields.flatMap (projField r k ids l)).map (·.2)) := by
 have e : tr.fields.flatMap (filledGo r 4 ((keepZ r k tr (ids.zip l)).map (·.1)) ((keepZ r k tr (ids.zip l)).map (·.2))) = tr.fields.flatMap (projField r k ids l) := by
  rw [List.flatMap_def, List.flatMap_def]
  congr 1
  refine List.map_congr_left fun f hf => ?_
  have hff := fieldOf_mem hm hf
  have hk := keepZ_filter (r := r) (k := k) hff (ids.zip l)
  have hi : hasI ids f.id = hasI ((ids.zip l).map (·.1)) f.id := by rw [zip_fst _ _ hl]
  unfold filledGo projField
  rw [zip_map_both, hk, hi]
  cases h1 : hasI ((ids.zip l).map (·.1)) f.id with
  | true =>
   have h2 : hasI ((keepZ r k tr (ids.zip l)).map (·.1)) f.id = true := by
    rw [hasI_filter, hk]
    have := hasI_filter.1 h1
    intro h
    exact this (List.map_eq_nil_iff.1 h)
   rw [h2, if_neg (by simp), if_neg (by simp)]
   rfl
  | false =>
   have h0 : (ids.zip l).filter (fun p => decide (p.1 = f.id)) = [] := Classical.byContradiction fun h => by rw [hasI_filter.2 h] at h1; cases h1
   have h2 : hasI ((keepZ r k tr (ids.zip l)).map (·.1)) f.id = false := by
    cases h3 : hasI ((keepZ r k tr (ids.zip l)).map (·.1)) f.id with
    | false => rfl
    | true =>
     have := hasI_filter.1 h3
     rw [hk, h0] at this
     exact absurd rfl this
   rw [h2, h0]
   by_cases hr : f.rule = 1
   ·rw [if_pos ⟨hr, rfl⟩, if_pos ⟨rfl, hr⟩]; rfl
   ·rw [if_neg (fun h => hr h.1), if_neg (fun h => hr h.2)]; rfl
 unfold filledF
 rw [e]
theorem typeOf_self {b : BookD} {t : TypeD} {n : ByteArray} (h : findT b n = some t) : typeOf b n = t := by unfold typeOf; rw [h]; rfl
theorem dec_over {w r : BookD} (hw : goodF w = 0) (hr : goodF r = 0) {P : List PairD} (hP : ClearP w r P) (hcl : ∀ p ∈ P, ClosedAt w r P p) (hok : PairsOk w r P) :
  ∀ (k : Nat) (a b : ByteArray) (v : ValueD), hasP P a b = true → (typeOf w a).enum = false → (typeOf r b).enum = false → depthV v ≤ k → typedF w (typeOf w a) v = 0 → (encV v).2 = 0 → decV r k (typeOf r b) (encV v).1 = (projV r k (typeOf r b) v, 0)
 | 0, _, _, .mk _ _ _ _ _, _, _, _, hd, _, _ => by rw [depthV] at hd; omega
 | k + 1, a, b, .mk kind n s ids l, hab, hea, heb, hd, ht, he => by
  obtain ⟨p, hp, hpk⟩ := List.mem_map.1 (hasP_mem.1 hab)
  unfold keyP at hpk
  injection hpk with e1 e2
  subst e1 e2
  have hmw := good_msg hw (typeOf_mem (hok.2 p hp).1) hea
  have hmr := good_msg hr (typeOf_mem (hok.2 p hp).2) heb
  obtain ⟨a1, a2, a3, a4, a5, a6, a7, a8⟩ := (typedF_iff w _ _).1 ht
  simp only [ValueD.kind, ValueD.ids, ValueD.l, ValueD.n, ValueD.s] at a1 a2 a3 a4 a5 a6 a7 a8
  subst a1 a3
  have hin : ∀ x ∈ l, x.kind = 2 → (encV x).2 = 0 := by
   rw [encV] at he
   split at he
   ·rename_i h1; exact absurd he h1
   ·rename_i h1
    exact partsGo_ok l ids [] a2 (by simpa using h1)
  have hdl : ∀ x ∈ l, depthV x ≤ k := by
   intro x hx
   have := depthL_mem hx
   rw [depthV] at hd
   omega
  rw [encV_mk a2 hin] at he ⊢
  have hdec := wire_back (l := partsL ids l) (r := (encL (partsL ids l) []).1) (by rw [← he])
  rw [decV, hdec]
  simp only [ne_eq, not_true, if_false]
  rw [decGo_over hw hr hmw hmr (k := k) (rec := decV r k) (hP p hp) (fun f hf g hg h5 h6 x hxd hxt hxe => by
   obtain ⟨t1, _, h1, _, _, i1, _⟩ := field_msg hw (msg_field hmw hf) h5
   obtain ⟨t2, _, h2, _, _, i2, _⟩ := field_msg hr (msg_field hmr (fieldOf_some hg).1) h6
   exact dec_over hw hr hP hcl hok k f.type g.type x (hcl p hp f hf g hg h5 h6) (by rw [h1]; exact i1) (by rw [h2]; exact i2) hxd hxt hxe) l ids none [] [] a2 (fun i hi => ⟨a5 i hi, fun k hk => by cases hk⟩) a6 a7 (fun i hi => by cases hi) hdl hin]
  simp only [ne_eq, not_true, if_false, List.nil_append]
  rw [filled_over hmr k a2, projV]
  rfl
theorem projV_fuel {r : BookD} : ∀ (k j : Nat) (t : TypeD) (v : ValueD), depthV v ≤ k → depthV v ≤ j → projV r k t v = projV r j t v
 | 0, _, _, .mk _ _ _ _ _, h, _ => by rw [depthV] at h; omega
 | _, 0, _, .mk _ _ _ _ _, _, h => by rw [depthV] at h; omega
 | k + 1, j + 1, t, .mk kind n s ids l, h, h' => by
  have e : t.fields.flatMap (projField r k ids l) = t.fields.flatMap (projField r j ids l) := by
   rw [List.flatMap_def, List.flatMap_def]
   congr 1
   refine List.map_congr_left fun f hf => ?_
   unfold projField
   split
   ·rfl
   ·refine List.map_congr_left fun p hp => ?_
    have hm := (List.of_mem_zip (List.mem_filter.1 hp).1).2
    have := depthL_mem hm
    rw [depthV] at h h'
    split
    ·rw [projV_fuel k j _ p.2 (by omega) (by omega)]
    ·rfl
  rw [projV, projV]
  simp only [ValueD.ids, ValueD.l]
  rw [e]
theorem proj_dec {w r : BookD} {name : ByteArray} {v : ValueD} (hb : bothF w r name = 0) (hf : (flawsF w r name).1 = []) (ht : TypedF w name v = 0) :
  decV r 24 (typeOf r name) (encV v).1 = (projV r (depthV v) (typeOf r name) v, 0) := by
 obtain ⟨hw, hr, hn1, hn2⟩ := bothF_ok hb
 obtain ⟨-, -, hs, htt⟩ := TypedF_ok ht
 obtain ⟨hd, hc⟩ := small_iff.1 hs
 have hcl := clear_of (flawsF_none hb hf)
 have ho := pairsGo_ok hw hr 18 0 _ (pairs_start hn1 hn2)
 have hclo := pairsGo_closed hw hr 18 0 _ (pairs_start hn1 hn2) (by omega) (fun j hj => by omega)
 obtain ⟨m, hm⟩ : ∃ m, pairsF w r name = [⟨name, name, -1, 0⟩] ++ m := by
  have key : ∀ (k i : Nat) (l : List PairD), ∃ m, pairsGo w r k i l = l ++ m := by
   intro k
   induction k with
   | zero => intro i l; exact ⟨[], by simp [pairsGo]⟩
   | succ k ih =>
    intro i l
    rw [pairsGo]
    split
    ·exact ⟨[], by simp⟩
    ·rename_i p _
     obtain ⟨m1, h1⟩ := step_grows i (typeOf r p.r) (typeOf w p.w).fields l
     obtain ⟨m2, h2⟩ := ih (i + 1) (l ++ m1)
     rw [h1, h2]
     exact ⟨m1 ++ m2, by rw [List.append_assoc]⟩
  exact key 18 0 _
 have hin : hasP (pairsF w r name) name name = true := by
  rw [hm]
  exact hasP_append (by simp [hasP])
 have hmw := good_msg hw (typeOf_mem (none_of hn1).1) (none_of hn1).2
 have he := (enc_ok hw (depthV v) v _ (Nat.le_refl _) hc hmw htt).1
 have hdec := dec_over hw hr hcl hclo ho 24 name name v hin (none_of hn1).2 (none_of hn2).2 hd htt he
 rw [projV_fuel (depthV v) 24 _ v (Nat.le_refl _) hd]
 exact hdec
theorem proj_size {w r : BookD} {name : ByteArray} {v : ValueD} (hb : bothF w r name = 0) (hf : (flawsF w r name).1 = []) (ht : TypedF w name v = 0) : countV (projV r (depthV v) (typeOf r name) v) ≤ 240012 ∧ depthV (projV r (depthV v) (typeOf r name) v) ≤ 29 := by
 obtain ⟨-, hr, -, hn2⟩ := bothF_ok hb
 have h := decode_size hr hn2 (encV v).1
 rw [proj_dec hb hf ht] at h
 exact h
theorem reads_all {w r : BookD} {name : ByteArray} {v : ValueD} (hb : bothF w r name = 0) (hf : (flawsF w r name).1 = []) (ht : TypedF w name v = 0) :
  projF w r name v = DecodeF r name (encV v).1 ∧ ((projF w r name v).2 = 0 ∨ (projF w r name v).2 = 7) := by
 obtain ⟨-, hr, hn1, hn2⟩ := bothF_ok hb
 have hdec := proj_dec hb hf ht
 have e : projF w r name v = if smallF (projV r (depthV v) (typeOf r name) v) = false then (.zero, 7) else (projV r (depthV v) (typeOf r name) v, 0) := by
  unfold projF
  rw [if_neg (by simpa using hb), if_neg (by simpa using ht), if_neg (by rw [hf]; simp)]
 have e2 : DecodeF r name (encV v).1 = if smallF (projV r (depthV v) (typeOf r name) v) = false then (.zero, 7) else (projV r (depthV v) (typeOf r name) v, 0) := by
  unfold DecodeF
  rw [if_neg (by simpa using hr), if_neg (by rw [hn2]; decide), hdec]
  simp only [ne_eq, not_true, if_false]
 refine ⟨by rw [e, e2], ?_⟩
 rw [e]
 split
 ·exact .inr rfl
 ·exact .inl rfl
end Go.Proofs.YtfidfakcbjoilaaGreatDoor
