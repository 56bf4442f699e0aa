/- What package book answers, plainly. -/
import Derived.Test.YtaadnlopifaagaaDoorBookRep
namespace Go.Proofs.YtaadnlopifaagaaDoor

def hasS (l : List ByteArray) (x : ByteArray) : Bool := l.any fun y => decide (y = x)
/-- Where a text stands in a list; -1: nowhere. -/
def idxS (l : List ByteArray) (x : ByteArray) : Int := if hasS l x then ((l.findIdx fun y => decide (y = x) : Nat) : Int) else -1
theorem idxS_hit {l : List ByteArray} {x : ByteArray} {k : Nat} (hk : k < l.length) (h : l[k] = x) (hn : ∀ j (hj : j < k), l[j] ≠ x) : idxS l x = k := by
  have hm : hasS l x = true := List.any_eq_true.2 ⟨l[k], List.getElem_mem hk, by simpa using h⟩
  rw [idxS, if_pos hm]
  congr 1
  rw [List.findIdx_eq hk]
  exact ⟨by simpa using h, fun j hj => by simpa using hn j hj⟩
theorem idxS_none {l : List ByteArray} {x : ByteArray} (hn : ∀ j (hj : j < l.length), l[j] ≠ x) : idxS l x = -1 := by
  rw [idxS, if_neg]
  intro hm
  obtain ⟨y, hy, e⟩ := List.any_eq_true.1 hm
  obtain ⟨j, hj, rfl⟩ := List.getElem_of_mem hy
  exact hn j hj (by simpa using e)
theorem idxS_has (l : List ByteArray) (x : ByteArray) : decide (idxS l x ≥ 0) = hasS l x := by
  unfold idxS
  cases hasS l x <;> simp

/-- The words that are no names. -/
def wordsL : List ByteArray := [⟨#[98, 111, 111, 108]⟩, ⟨#[101, 110, 117, 109]⟩, ⟨#[103, 111, 110, 101]⟩, ⟨#[105, 110, 116]⟩, ⟨#[109, 97, 110, 121]⟩, ⟨#[109, 97, 121, 98, 101]⟩, ⟨#[109, 101, 115, 115, 97, 103, 101]⟩, ⟨#[111, 110, 101]⟩, ⟨#[116, 101, 120, 116]⟩]
/-- What Named answers. -/
def namedF (s : ByteArray) : Bool := (bytes s).all (fun c => decide (97 ≤ c.toNat ∧ c.toNat ≤ 122)) && decide (1 ≤ s.size ∧ s.size ≤ 12) && !hasS wordsL s

def leastGo (rec : ByteArray → Nat) : List FieldD → Nat → Nat
  | [], n => n
  | f :: l, n => if f.rule = 1 then (if f.kind = 5 then (if rec f.type = 0 then 0 else leastGo rec l (n + rec f.type)) else leastGo rec l (n + 1)) else leastGo rec l n
/-- How many values there are in the least one of a type. -/
def leastF (b : BookD) : Nat → ByteArray → Nat
  | 0, _ => 0
  | left + 1, name => match findT b name with
    | none => 0
    | some t => if t.enum = true ∨ 5 < t.fields.length then 0 else leastGo (leastF b left) t.fields 1
theorem leastGo_le {rec : ByteArray → Nat} {m : Nat} (hm : ∀ x, rec x ≤ m) (h1 : 1 ≤ m) : ∀ (l : List FieldD) (n : Nat), leastGo rec l n ≤ n + l.length * m
  | [], n => by simp [leastGo]
  | f :: l, n => by
    have e : (f :: l).length * m = l.length * m + m := by rw [List.length_cons, Nat.add_mul, Nat.one_mul]
    have hf := hm f.type
    have a := leastGo_le hm h1 l n
    have b := leastGo_le hm h1 l (n + 1)
    have c := leastGo_le hm h1 l (n + rec f.type)
    rw [leastGo, e]
    split
    · split
      · split <;> omega
      · omega
    · omega
theorem leastF_le (b : BookD) : ∀ (left : Nat) (name : ByteArray), leastF b left name ≤ 6 ^ left
  | 0, _ => by simp [leastF]
  | left + 1, name => by
    have hp : 1 ≤ 6 ^ left := Nat.pow_pos (by decide)
    rw [leastF, Nat.pow_succ]
    split
    · exact Nat.zero_le _
    · rename_i t _
      split
      · exact Nat.zero_le _
      · rename_i h
        have := leastGo_le (leastF_le b left) hp t.fields 1
        have h5 : t.fields.length * 6 ^ left ≤ 5 * 6 ^ left := Nat.mul_le_mul_right _ (by omega)
        omega
theorem leastF_216 (b : BookD) {left : Nat} (h : left ≤ 3) (name : ByteArray) : leastF b left name ≤ 216 :=
  Nat.le_trans (leastF_le b left name) (Nat.le_trans (Nat.pow_le_pow_right (by decide) h) (by decide))

/-- Does a number mean an item? -/
def meansF (t : TypeD) (n : Int) : Bool := t.items.any fun x => decide (x.n = n)


/-- Is it an enum that may be? -/
def EnumP (t : TypeD) : Prop :=
  (∀ i (h : i < t.items.length), namedF t.items[i].name = true ∧ -1099511627776 ≤ t.items[i].n ∧ t.items[i].n ≤ 1099511627776 ∧ (∀ (_ : 0 < i), t.items[i - 1].n < t.items[i].n) ∧ ∀ j (_ : j < i), t.items[i].name ≠ t.items[j].name) ∧
    1 ≤ t.items.length ∧ t.items.length ≤ 6 ∧ t.fields.length = 0 ∧ t.gone.length = 0
instance (t : TypeD) : Decidable (EnumP t) := by unfold EnumP; infer_instance
def enumF (t : TypeD) : Bool := decide (EnumP t)
/-- Is a field's type one that may be? -/
def kindP (b : BookD) (f : FieldD) : Prop := (f.kind < 4 → f.type.size = 0) ∧ (4 ≤ f.kind → (findT b f.type).isSome = true ∧ ((findT b f.type).getD .zero).enum = decide (f.kind = 4))
instance (b : BookD) (f : FieldD) : Decidable (kindP b f) := by unfold kindP; infer_instance
/-- A field by itself. -/
def fieldP (b : BookD) (f : FieldD) : Prop := namedF f.name = true ∧ 1 ≤ f.id ∧ f.id ≤ 30 ∧ 1 ≤ f.kind ∧ f.kind ≤ 5 ∧ 1 ≤ f.rule ∧ f.rule ≤ 3 ∧ kindP b f
instance (b : BookD) (f : FieldD) : Decidable (fieldP b f) := by unfold fieldP; infer_instance
def GoneP (t : TypeD) : Prop := ∀ i (h : i < t.gone.length), (fieldOf t t.gone[i]).isSome = false ∧ 1 ≤ t.gone[i] ∧ t.gone[i] ≤ 30 ∧ ∀ (_ : 0 < i), t.gone[i - 1] < t.gone[i]
instance (t : TypeD) : Decidable (GoneP t) := by unfold GoneP; infer_instance
def FieldsP (b : BookD) (t : TypeD) : Prop := ∀ i (h : i < t.fields.length), fieldP b t.fields[i] ∧ (∀ (_ : 0 < i), t.fields[i - 1].id < t.fields[i].id) ∧ ∀ j (_ : j < i), t.fields[i].name ≠ t.fields[j].name
instance (b : BookD) (t : TypeD) : Decidable (FieldsP b t) := by unfold FieldsP; infer_instance
/-- Is it a message that may be? -/
def MessageP (b : BookD) (t : TypeD) : Prop := t.fields.length ≤ 5 ∧ t.items.length = 0 ∧ t.gone.length ≤ 30 ∧ GoneP t ∧ FieldsP b t
instance (b : BookD) (t : TypeD) : Decidable (MessageP b t) := by unfold MessageP; infer_instance
def messageF (b : BookD) (t : TypeD) : Bool := decide (MessageP b t)
/-- Is one text before another? -/
def ltS (a b : ByteArray) : Prop := Op.bytesLess a.toList b.toList = true
instance (a b : ByteArray) : Decidable (ltS a b) := by unfold ltS; infer_instance
/-- Are the types of a book such as may be? -/
def TypesP (b : BookD) : Prop := ∀ i (h : i < b.length), namedF b[i].name = true ∧ (∀ (_ : 0 < i), ltS b[i - 1].name b[i].name) ∧ (if b[i].enum = true then enumF b[i] = true else messageF b b[i] = true)
instance (b : BookD) : Decidable (TypesP b) := by unfold TypesP; infer_instance
def LeastP (b : BookD) : Prop := ∀ i (h : i < b.length), b[i].enum = false → 1 ≤ leastF b 4 b[i].name ∧ leastF b 4 b[i].name ≤ 12
instance (b : BookD) : Decidable (LeastP b) := by unfold LeastP; infer_instance
/-- What is wrong with a book. -/
def goodF (b : BookD) : Int := if 4 < b.length then 7 else if ¬ TypesP b then 1 else if ¬ LeastP b then 7 else 0
end Go.Proofs.YtaadnlopifaagaaDoor
