/- Books as lists: how types, fields, items read. -/
import Derived.Test.YtaadnlopifaagaaDoorRep
import Derived.Test.YtaadnlopifaagaaDoorBytes
namespace Go.Proofs.YtaadnlopifaagaaDoor
open Go.RowKit

structure FieldD where
  id : Int
  name : ByteArray
  type : ByteArray
  kind : Int
  rule : Int
  deriving DecidableEq
structure ItemD where
  name : ByteArray
  n : Int
  deriving DecidableEq
structure TypeD where
  name : ByteArray
  enum : Bool
  fields : List FieldD
  gone : List Int
  items : List ItemD
  deriving DecidableEq
def TypeD.zero : TypeD := ⟨⟨#[]⟩, false, [], [], []⟩
def FieldD.zero : FieldD := ⟨0, ⟨#[]⟩, ⟨#[]⟩, 0, 0⟩
abbrev BookD := List TypeD

def fieldCells (f : FieldD) : List Value := [.int .i64 f.id, .string f.name, .string f.type, .int .i64 f.kind, .int .i64 f.rule]
def RField : Rel FieldD := RFlat fieldCells
theorem RField.fair : Fair RField := RFlat.fair _
def itemCells (x : ItemD) : List Value := [.string x.name, .int .i64 x.n]
def RItem : Rel ItemD := RFlat itemCells
theorem RItem.fair : Fair RItem := RFlat.fair _
def RType : Rel TypeD := fun S w cs t => ∃ vf vg vi, cs = [.string t.name, .bool t.enum, vf, vg, vi] ∧ RSl 5 56 RField S w [vf] t.fields ∧ RSl 1 8 RInt S w [vg] t.gone ∧ RSl 2 24 RItem S w [vi] t.items
theorem RType.fair : Fair RType := ⟨by
    rintro S w w' cs t ⟨vf, vg, vi, h, a, b, c⟩ hk
    exact ⟨vf, vg, vi, h, (RSl.fair RField.fair).keep a hk, (RSl.fair RInt.fair).keep b hk, (RSl.fair RItem.fair).keep c hk⟩, by
    rintro S T w cs t ⟨vf, vg, vi, h, a, b, c⟩ hk
    exact ⟨vf, vg, vi, h, (RSl.fair RField.fair).mono a hk, (RSl.fair RInt.fair).mono b hk, (RSl.fair RItem.fair).mono c hk⟩⟩
theorem RType.zero {S : Nat → Prop} {w : World} : RType S w [.string ⟨#[]⟩, .bool false, .slice none 0 0, .slice none 0 0, .slice none 0 0] .zero :=
  ⟨_, _, _, rfl, RSl.nil_, RSl.nil_, RSl.nil_⟩
/-- A type's cells, written out. -/
theorem RType.parts {S : Nat → Prop} {w : World} {cs : List Value} {t : TypeD} (h : RType S w cs t) :
    ∃ A1 c1 A2 c2 A3 c3, cs = [.string t.name, .bool t.enum, .slice A1 t.fields.length c1, .slice A2 t.gone.length c2, .slice A3 t.items.length c3] ∧
      RSl 5 56 RField S w [.slice A1 t.fields.length c1] t.fields ∧ RSl 1 8 RInt S w [.slice A2 t.gone.length c2] t.gone ∧ RSl 2 24 RItem S w [.slice A3 t.items.length c3] t.items := by
  obtain ⟨vf, vg, vi, rfl, a, b, c⟩ := h
  obtain ⟨A1, c1, rfl, _, _⟩ := a.form
  obtain ⟨A2, c2, rfl, _, _⟩ := b.form
  obtain ⟨A3, c3, rfl, _, _⟩ := c.form
  exact ⟨A1, c1, A2, c2, A3, c3, rfl, a, b, c⟩

/-- The type of a name. -/
def findT (b : BookD) (name : ByteArray) : Option TypeD := b.find? fun t => decide (t.name = name)
def fieldOf (t : TypeD) (id : Int) : Option FieldD := t.fields.find? fun f => decide (f.id = id)

theorem ba_eq (a b : ByteArray) : (a.toList == b.toList) = decide (a = b) := by
  rw [ByteArray.toList_eq, ByteArray.toList_eq, Bool.eq_iff_iff]
  obtain ⟨⟨a⟩⟩ := a
  obtain ⟨⟨b⟩⟩ := b
  simp
end Go.Proofs.YtaadnlopifaagaaDoor
