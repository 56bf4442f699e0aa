/- What package merge answers, plainly. -/
import Derived.Test.YtaadnlopifaagaaDoorValueLawA
import Derived.Lib.SlicesCompact
namespace Go.Proofs.YtaadnlopifaagaaDoor

/-- How a thing is: whether it is there, and how. -/
structure StateD where
  there : Bool
  enum : Bool
  field : FieldD
  item : ByteArray
  deriving DecidableEq
def noS : StateD := ⟨false, false, .zero, ⟨#[]⟩⟩
/-- What was, and what two have made of it. -/
def threeF (was a b : StateD) : StateD × Bool := if a = b ∨ b = was then (a, true) else if a = was then (b, true) else (was, false)
def kindS (b : BookD) (name : ByteArray) : StateD := ⟨(findT b name).isSome, (typeOf b name).enum, .zero, ⟨#[]⟩⟩
def fieldS (t : TypeD) (id : Int) : StateD := ⟨(fieldOf t id).isSome, false, (fieldOf t id).getD .zero, ⟨#[]⟩⟩
def goneS (t : TypeD) (id : Int) : StateD := ⟨hasI t.gone id, false, .zero, ⟨#[]⟩⟩
def itemOf (t : TypeD) (n : Int) : Option ItemD := t.items.find? fun x => decide (x.n = n)
def itemS (t : TypeD) (n : Int) : StateD := match itemOf t n with
  | some x => ⟨true, false, .zero, x.name⟩
  | none => noS
/-- Texts, each once. -/
def addS (out : List ByteArray) (x : ByteArray) : List ByteArray := if hasS out x then out else out ++ [x]
def onceS (l : List ByteArray) : List ByteArray := l.foldl addS []
def sortS (l : List ByteArray) : List ByteArray := ((l.map bytes).mergeSort fun x y => decide (x ≤ y)).map fun b => ⟨b.toArray⟩
def sortI (l : List Int) : List Int := l.mergeSort fun x y => decide (x ≤ y)
def namesF (l : List BookD) : List ByteArray := sortS (onceS (l.flatMap fun b => b.map (·.name)))
def numbersF (l : List TypeD) : List Int := Lib.compact (sortI (l.flatMap fun t => t.items.map (·.n)))

structure FlawD where
  type : ByteArray
  id : Int
  why : Int
  deriving DecidableEq
/-- All numbers of fields. -/
def idsL : List Int := (List.range 30).map fun (k : Nat) => (k : Int) + 1
section
variable (x y z : TypeD) (name : ByteArray)
def fT (id : Int) : StateD × Bool := threeF (fieldS x id) (fieldS y id) (fieldS z id)
def gT (id : Int) : StateD × Bool := threeF (goneS x id) (goneS y id) (goneS z id)
def iT (n : Int) : StateD × Bool := threeF (itemS x n) (itemS y n) (itemS z n)
/-- Is a number one that both have changed? -/
def badId (id : Int) : Bool := !(fT x y z id).2 || ((fT x y z id).1.there && (gT x y z id).1.there)
def fieldsAt (id : Int) : List FieldD := if badId x y z id = true then [] else if (fT x y z id).1.there = true then [(fT x y z id).1.field] else []
def goneAt (id : Int) : List Int := if badId x y z id = true then [] else if (fT x y z id).1.there = true then [] else if (gT x y z id).1.there = true then [id] else []
def badAt (id : Int) : List FlawD := if badId x y z id = true then [⟨name, id, 0⟩] else []
def itemsAt (n : Int) : List ItemD := if (iT x y z n).2 = false then [] else if (iT x y z n).1.there = true then [⟨(iT x y z n).1.item, n⟩] else []
def badIt (n : Int) : List FlawD := if (iT x y z n).2 = false then [⟨name, n, 0⟩] else []
def typesT : TypeD := ⟨name, false, idsL.flatMap (fieldsAt x y z), idsL.flatMap (goneAt x y z), (numbersF [x, y, z]).flatMap (itemsAt x y z)⟩
def typesL : List FlawD := idsL.flatMap (badAt x y z name) ++ (numbersF [x, y, z]).flatMap (badIt x y z name)
end
/-- Is what is in a type in the way? -/
def clashF (k : StateD) (t : TypeD) : Bool :=
  (!k.there && (decide (0 < t.fields.length + t.gone.length) || decide (0 < t.items.length))) || (k.there && k.enum && decide (0 < t.fields.length + t.gone.length)) || (k.there && !k.enum && decide (0 < t.items.length))
section
variable (was a b : BookD) (name : ByteArray)
def kT : StateD × Bool := threeF (kindS was name) (kindS a name) (kindS b name)
def tyT : TypeD := { typesT (typeOf was name) (typeOf a name) (typeOf b name) name with enum := (kT was a b name).1.enum }
def tyL : List FlawD := typesL (typeOf was name) (typeOf a name) (typeOf b name) name
/-- What one name brings: a type or none, and what is wrong. -/
def nameM : List TypeD × List FlawD :=
  if (kT was a b name).2 = false then ([], [⟨name, 0, 0⟩])
  else if 0 < (tyL was a b name).length then ([], tyL was a b name)
  else if clashF (kT was a b name).1 (tyT was a b name) = true then ([], [⟨name, 0, 0⟩])
  else if (kT was a b name).1.there = true then ([tyT was a b name], []) else ([], [])
end
def outM (was a b : BookD) : BookD := (namesF [was, a, b]).flatMap fun n => (nameM was a b n).1
def badM (was a b : BookD) : List FlawD := (namesF [was, a, b]).flatMap fun n => (nameM was a b n).2
/-- What two have made of one book. -/
def booksM (was a b : BookD) : BookD × List FlawD × Int :=
  if goodF was ≠ 0 ∨ goodF a ≠ 0 ∨ goodF b ≠ 0 then ([], [], 1)
  else if 0 < (badM was a b).length then ([], badM was a b, 9)
  else if goodF (outM was a b) ≠ 0 then ([], [], goodF (outM was a b))
  else (outM was a b, [], 0)
end Go.Proofs.YtaadnlopifaagaaDoor
