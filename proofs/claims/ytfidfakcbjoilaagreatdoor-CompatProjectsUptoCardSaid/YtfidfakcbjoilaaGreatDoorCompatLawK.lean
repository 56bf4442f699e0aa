/- Pairs that are reached, and why a field cannot be read: what the laws of flaws need (cut from CompatLawW). -/
import Derived.Test.YtfidfakcbjoilaaGreatDoorCLaws
set_option linter.all false
namespace Go.Proofs.YtfidfakcbjoilaaGreatDoor
theorem mem_insR {α : Type} {lt : α → α → Bool} {x z : α} : ∀ {l : List α}, z ∈ insR lt x l → z = x ∨ z ∈ l
 | [], h => by
  unfold insR at h
  exact .inl (List.mem_singleton.1 h)
 | y :: l, h => by
  unfold insR at h
  split at h
  ·rcases List.mem_cons.1 h with rfl | h
   ·exact .inr (List.mem_cons_self ..)
   ·exact (mem_insR h).imp id (List.mem_cons_of_mem _)
  ·exact List.mem_cons.1 h
theorem mem_sortS {α : Type} {lt : α → α → Bool} {z : α} {l : List α} (h : z ∈ sortS lt l) : z ∈ l := by
 unfold sortS at h
 rw [List.mem_reverse] at h
 have key : ∀ (l a : List α), z ∈ l.foldl (fun a x => insR lt x a) a → z ∈ l ∨ z ∈ a := by
  intro l
  induction l with
  | nil => exact fun a h => .inr h
  | cons x l ih =>
   intro a h
   rcases ih _ h with h | h
   ·exact .inl (List.mem_cons_of_mem _ h)
   ·rcases mem_insR h with rfl | h
    ·exact .inl (List.mem_cons_self ..)
    ·exact .inr h
 exact (key l [] h).elim id (fun h => by cases h)
theorem why_one {w r : BookD} {f g : FieldD} {y : Int} (h : y ∈ whysF w r f g) : (y = 1 ∧ kindOf f.kind ≠ kindOf g.kind) ∨ (y = 3 ∧ kindOf f.kind = kindOf g.kind ∧ kindOf f.kind = 0 ∧ ∃ n, lacksF w r f g = some n) ∨ (y = 2 ∧ f.rule = 3 ∧ g.rule ≠ 3) := by
 unfold whysF at h
 have h' := mem_sortS h
 rcases List.mem_append.1 h' with h | h
 ·unfold whyA at h
  split at h
  ·rename_i hk
   exact .inl ⟨by simpa using h, hk⟩
  ·rename_i hk
   split at h
   ·rename_i hl
    obtain ⟨n, hn⟩ := Option.isSome_iff_exists.1 hl.2
    exact .inr (.inl ⟨by simpa using h, by simpa using hk, hl.1, n, hn⟩)
   ·cases h
 ·unfold whyB at h
  split at h
  ·rename_i hb
   exact .inr (.inr ⟨by simpa using h, hb⟩)
  ·cases h
def PathOk (w r : BookD) (P : List PairD) : Prop := ∀ (i : Nat) (p : PairD), P[i]? = some p → (i = 0 ∧ p.from_ < 0) ∨ ∃ (j : Nat) (q : PairD), j < i ∧ p.from_ = (j : Int) ∧ P[j]? = some q ∧ ∃ f g, f ∈ (typeOf w q.w).fields ∧ f.id = p.id ∧ f.kind = 5 ∧ f.type = p.w ∧ fieldOf (typeOf r q.r) f.id = some g ∧ g.kind = 5 ∧ g.type = p.r
theorem path_step {w r : BookD} {P : List PairD} (h : PathOk w r P) {i : Nat} {p : PairD} (hp : P[i]? = some p) {f : FieldD} (hf : f ∈ (typeOf w p.w).fields) : PathOk w r (pairStep i (typeOf r p.r) P f) := by
 have hi : i < P.length := by
  rcases Nat.lt_or_ge i P.length with h | h
  ·exact h
  ·rw [List.getElem?_eq_none h] at hp; cases hp
 unfold pairStep
 split
 ·exact h
 ·rename_i g hg
  split
  ·rename_i hc
   obtain ⟨h1, h2, _⟩ := hc
   intro k q hk
   rcases Nat.lt_or_ge k P.length with hl | hl
   ·rw [List.getElem?_append_left hl] at hk
    rcases h k q hk with h' | ⟨j, q', hj, e, hq', rest⟩
    ·exact .inl h'
    ·exact .inr ⟨j, q', hj, e, by rw [List.getElem?_append_left (by omega)]; exact hq', rest⟩
   ·rw [List.getElem?_append_right hl] at hk
    have hk0 : k - P.length = 0 := by
     rcases Nat.eq_zero_or_pos (k - P.length) with h | h
     ·exact h
     ·rw [List.getElem?_eq_none (by simp; omega)] at hk; cases hk
    rw [hk0] at hk
    simp only [List.getElem?_cons_zero, Option.some.injEq] at hk
    subst hk
    exact .inr ⟨i, p, by omega, rfl, by rw [List.getElem?_append_left hi]; exact hp, f, g, hf, rfl, h1, rfl, hg, h2, rfl⟩
  ·exact h
theorem step_keeps (i : Nat) (t : TypeD) (l : List PairD) (f : FieldD) {k : Nat} {p : PairD} (h : l[k]? = some p) : (pairStep i t l f)[k]? = some p := by
 have hk : k < l.length := by
  rcases Nat.lt_or_ge k l.length with h' | h'
  ·exact h'
  ·rw [List.getElem?_eq_none h'] at h; cases h
 unfold pairStep
 split
 ·exact h
 ·split
  ·rw [List.getElem?_append_left hk]; exact h
  ·exact h
theorem path_fold {w r : BookD} {i : Nat} {p : PairD} : ∀ (fs : List FieldD) (P : List PairD), PathOk w r P → P[i]? = some p → (∀ f ∈ fs, f ∈ (typeOf w p.w).fields) → PathOk w r (fs.foldl (pairStep i (typeOf r p.r)) P) ∧ (fs.foldl (pairStep i (typeOf r p.r)) P)[i]? = some p
 | [], P, h, hp, _ => ⟨h, hp⟩
 | f :: fs, P, h, hp, hf => path_fold fs _ (path_step h hp (hf f (List.mem_cons_self ..))) (step_keeps _ _ _ _ hp) (fun f' h' => hf f' (List.mem_cons_of_mem _ h'))
theorem path_go {w r : BookD} : ∀ (k i : Nat) (P : List PairD), PathOk w r P → PathOk w r (pairsGo w r k i P)
 | 0, _, _, h => h
 | k + 1, i, P, h => by
  rw [pairsGo]
  split
  ·exact h
  ·rename_i p hp
   exact path_go k (i + 1) _ (path_fold _ P h hp (fun _ h => h)).1
theorem go_keeps {w r : BookD} {j : Nat} {q : PairD} : ∀ (k i : Nat) (P : List PairD), P[j]? = some q → (pairsGo w r k i P)[j]? = some q
 | 0, _, _, h => h
 | k + 1, i, P, h => by
  rw [pairsGo]
  split
  ·exact h
  ·rename_i p hp
   refine go_keeps k (i + 1) _ ?_
   have : ∀ (fs : List FieldD) (L : List PairD), L[j]? = some q → (fs.foldl (pairStep i (typeOf r p.r)) L)[j]? = some q := by
    intro fs
    induction fs with
    | nil => exact fun L h => h
    | cons f fs ih => exact fun L h => ih _ (step_keeps _ _ _ _ h)
   exact this _ _ h
end Go.Proofs.YtfidfakcbjoilaaGreatDoor
