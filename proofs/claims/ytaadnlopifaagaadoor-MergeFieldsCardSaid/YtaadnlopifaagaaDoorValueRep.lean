/- Values in memory: how they read. -/
import Derived.Test.YtaadnlopifaagaaDoorValuePlain
import Derived.Test.YtaadnlopifaagaaDoorRepMore
namespace Go.Proofs.YtaadnlopifaagaaDoor
open Go.RowKit

/-- A value at most so deep. -/
def RValN : Nat → Rel ValueD
  | 0 => fun _ _ _ _ => False
  | n + 1 => fun S w cs v => ∃ vi vl, cs = [.int .i64 v.kind, .int .i64 v.n, .string v.s, vi, vl] ∧ RSl 1 8 RInt S w [vi] v.ids ∧ RSl 5 80 (RValN n) S w [vl] v.l
theorem RValN.fair : ∀ n, Fair (RValN n)
  | 0 => ⟨fun h _ => h, fun h _ => h⟩
  | n + 1 => ⟨by
      rintro S w w' cs v ⟨vi, vl, h, a, b⟩ hk
      exact ⟨vi, vl, h, (RSl.fair RInt.fair).keep a hk, (RSl.fair (RValN.fair n)).keep b hk⟩, by
      rintro S T w cs v ⟨vi, vl, h, a, b⟩ hk
      exact ⟨vi, vl, h, (RSl.fair RInt.fair).mono a hk, (RSl.fair (RValN.fair n)).mono b hk⟩⟩
theorem RSl.imp {α : Type} {sz by_ : Nat} {R R' : Rel α} {S : Nat → Prop} {w : World} {cs : List Value} {xs : List α} (h : RSl sz by_ R S w cs xs) (hi : ∀ x ∈ xs, ∀ es, R S w es x → R' S w es x) : RSl sz by_ R' S w cs xs := by
  obtain ⟨A, cap, h1, h2, h3, h4⟩ := h
  refine ⟨A, cap, h1, h2, h3, fun k x hx => ?_⟩
  obtain ⟨g, o, es, a, b, c, d, e, f⟩ := h4 k x hx
  exact ⟨g, o, es, a, b, c, d, hi x (List.mem_of_getElem? hx) es e, f⟩
theorem RValN.up {S : Nat → Prop} {w : World} : ∀ {n m : Nat} {cs : List Value} {v : ValueD}, RValN n S w cs v → n ≤ m → RValN m S w cs v
  | 0, _, _, _, h, _ => h.elim
  | n + 1, 0, _, _, _, h => absurd h (by omega)
  | n + 1, m + 1, _, _, ⟨vi, vl, h, a, b⟩, hm => ⟨vi, vl, h, a, b.imp fun _ _ _ hx => RValN.up hx (by omega)⟩
/-- A value. -/
def RVal : Rel ValueD := fun S w cs v => RValN (depthV v) S w cs v
theorem RVal.fair : Fair RVal := ⟨fun h hk => (RValN.fair _).keep h hk, fun h hk => (RValN.fair _).mono h hk⟩
theorem depthL_mem' : ∀ {l : List ValueD} {x : ValueD}, x ∈ l → depthV x ≤ depthL l
  | [], _, h => by cases h
  | y :: l, x, h => by
    rw [depthL]
    rcases List.mem_cons.1 h with rfl | h
    · omega
    · have := depthL_mem' h; omega
theorem RValN.down {S : Nat → Prop} {w : World} : ∀ {n : Nat} {cs : List Value} {v : ValueD}, RValN n S w cs v → RVal S w cs v
  | 0, _, _, h => h.elim
  | n + 1, cs, .mk kind nn s ids l, ⟨vi, vl, h, a, b⟩ => by
    unfold RVal
    rw [depthV]
    exact ⟨vi, vl, h, a, b.imp fun x hx es hr => RValN.up (RValN.down hr : RVal S w es x) (depthL_mem' hx)⟩
theorem RVal.mk {S : Nat → Prop} {w : World} {vi vl : Value} {kind n : Int} {s : ByteArray} {ids : List Int} {l : List ValueD} (a : RSl 1 8 RInt S w [vi] ids) (b : RSl 5 80 RVal S w [vl] l) :
    RVal S w [.int .i64 kind, .int .i64 n, .string s, vi, vl] (.mk kind n s ids l) := by
  unfold RVal
  rw [depthV]
  exact ⟨vi, vl, rfl, a, b.imp fun x hx es hr => RValN.up hr (depthL_mem' hx)⟩
theorem RVal.parts {S : Nat → Prop} {w : World} {cs : List Value} {kind n : Int} {s : ByteArray} {ids : List Int} {l : List ValueD} (h : RVal S w cs (.mk kind n s ids l)) :
    ∃ A1 c1 A2 c2, cs = [.int .i64 kind, .int .i64 n, .string s, .slice A1 ids.length c1, .slice A2 l.length c2] ∧ RSl 1 8 RInt S w [.slice A1 ids.length c1] ids ∧ RSl 5 80 RVal S w [.slice A2 l.length c2] l := by
  unfold RVal at h
  rw [depthV] at h
  obtain ⟨vi, vl, rfl, a, b⟩ := h
  obtain ⟨A1, c1, rfl, _, _⟩ := a.form
  obtain ⟨A2, c2, rfl, _, _⟩ := b.form
  exact ⟨A1, c1, A2, c2, rfl, a, b.imp fun x _ es hr => RValN.down hr⟩
theorem RVal.zero {S : Nat → Prop} {w : World} : RVal S w [.int .i64 0, .int .i64 0, .string ⟨#[]⟩, .slice none 0 0, .slice none 0 0] .zero := RVal.mk RSl.nil_ RSl.nil_
theorem RVal.plain {S : Nat → Prop} {w : World} (k n : Int) (s : ByteArray) : RVal S w [.int .i64 k, .int .i64 n, .string s, .slice none 0 0, .slice none 0 0] (.mk k n s [] []) := RVal.mk RSl.nil_ RSl.nil_
theorem RVal.ones : OneCells RVal := by
  rintro S w cs ⟨kind, n, s, ids, l⟩ h
  obtain ⟨A1, c1, A2, c2, rfl, _, _⟩ := h.parts
  exact Ones.of_all rfl
theorem RInt.ones : OneCells RInt := by
  rintro S w cs x h
  have h' : cs = [.int .i64 x] := h
  subst h'; exact Ones.of_all rfl
/-- What is new since a world. -/
def New (w : World) : Nat → Prop := fun g => w.heap.size ≤ g
/-- What is in a set, or new. -/
def Un (S : Nat → Prop) (w : World) : Nat → Prop := fun g => S g ∨ w.heap.size ≤ g

mutual
/-- Texts of lengths that may be read. -/
def okV : ValueD → Prop
  | .mk _ _ s _ l => s.size ≤ 140737488351232 ∧ okL l
def okL : List ValueD → Prop
  | [] => True
  | x :: l => okV x ∧ okL l
end
theorem okL_mem : ∀ {l : List ValueD} {x : ValueD}, okL l → x ∈ l → okV x
  | [], _, _, h => by cases h
  | y :: l, x, hl, h => by
    rw [okL] at hl
    rcases List.mem_cons.1 h with rfl | h
    · exact hl.1
    · exact okL_mem hl.2 h
theorem okL_of : ∀ {l : List ValueD}, (∀ x ∈ l, okV x) → okL l
  | [], _ => trivial
  | x :: l, h => by rw [okL]; exact ⟨h x (by simp), okL_of fun y hy => h y (by simp [hy])⟩
theorem countL_mem' : ∀ {l : List ValueD} {x : ValueD}, x ∈ l → countV x ≤ countL l
  | [], _, h => by cases h
  | y :: l, x, h => by
    rw [countL]
    rcases List.mem_cons.1 h with rfl | h
    · omega
    · have := countL_mem' h; omega
theorem countL_take_succ : ∀ (l : List ValueD) (k : Nat) (h : k < l.length), countL (l.take (k + 1)) = countL (l.take k) + countV l[k]
  | [], _, h => by simp at h
  | x :: l, 0, _ => by simp [countL]
  | x :: l, k + 1, h => by
    simp only [List.take_succ_cons, countL, List.getElem_cons_succ]
    rw [countL_take_succ l k (by simpa using h)]
    omega
theorem depthL_take_succ : ∀ (l : List ValueD) (k : Nat) (h : k < l.length), depthL (l.take (k + 1)) = max (depthL (l.take k)) (depthV l[k])
  | [], _, h => by simp at h
  | x :: l, 0, _ => by simp [depthL]
  | x :: l, k + 1, h => by
    simp only [List.take_succ_cons, depthL, List.getElem_cons_succ]
    rw [depthL_take_succ l k (by simpa using h)]
    omega
theorem countL_take_le : ∀ (l : List ValueD) (k : Nat), countL (l.take k) ≤ countL l
  | [], _ => by simp
  | x :: l, 0 => by simp [countL]
  | x :: l, k + 1 => by simp only [List.take_succ_cons, countL]; have := countL_take_le l k; omega
theorem depthL_take_le : ∀ (l : List ValueD) (k : Nat), depthL (l.take k) ≤ depthL l
  | [], _ => by simp
  | x :: l, 0 => by simp [depthL]
  | x :: l, k + 1 => by simp only [List.take_succ_cons, depthL]; have := depthL_take_le l k; omega
end Go.Proofs.YtaadnlopifaagaaDoor
