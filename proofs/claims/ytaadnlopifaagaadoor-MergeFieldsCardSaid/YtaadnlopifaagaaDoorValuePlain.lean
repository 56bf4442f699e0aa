/- What package value answers, plainly. -/
import Derived.Test.YtaadnlopifaagaaDoorBookPlain
import Derived.Test.YtaadnlopifaagaaDoorWireLawPlain
namespace Go.Proofs.YtaadnlopifaagaaDoor

/-- A value: its kind, number, text, the numbers of its fields, and a value of each. -/
inductive ValueD where
  | mk (kind n : Int) (s : ByteArray) (ids : List Int) (l : List ValueD)
namespace ValueD
def kind : ValueD → Int | mk k _ _ _ _ => k
def n : ValueD → Int | mk _ n _ _ _ => n
def s : ValueD → ByteArray | mk _ _ s _ _ => s
def ids : ValueD → List Int | mk _ _ _ i _ => i
def l : ValueD → List ValueD | mk _ _ _ _ l => l
def zero : ValueD := mk 0 0 ⟨#[]⟩ [] []
end ValueD
/-- A message. -/
def msgV (ids : List Int) (l : List ValueD) : ValueD := .mk 2 0 ⟨#[]⟩ ids l

def plainF (s : ByteArray) : Bool := (bytes s).all (fun c => decide (c.toNat < 128)) && decide (s.size ≤ 40)

mutual
/-- How deep. -/
def depthV : ValueD → Nat
  | .mk _ _ _ _ l => depthL l + 1
def depthL : List ValueD → Nat
  | [] => 0
  | x :: l => max (depthV x) (depthL l)
end
mutual
/-- How many. -/
def countV : ValueD → Nat
  | .mk _ _ _ _ l => countL l + 1
def countL : List ValueD → Nat
  | [] => 0
  | x :: l => countV x + countL l
end
def smallF (v : ValueD) : Bool := decide (depthV v ≤ 24 ∧ countV v ≤ 400)

def kindOf (k : Int) : Int := if k = 3 then 1 else if k = 5 then 2 else 0

/-- Is there anything in it that is not of its kind? -/
def oddF (v : ValueD) : Bool := decide ((v.kind ≠ 2 ∧ 0 < v.ids.length + v.l.length) ∨ (v.kind ≠ 0 ∧ v.n ≠ 0) ∨ (v.kind ≠ 1 ∧ v.s.size ≠ 0))
def fitsF (b : BookD) (f : FieldD) (v : ValueD) : Int :=
  if v.kind ≠ kindOf f.kind then 5
  else if oddF v = true then 1
  else if f.kind = 1 then (if v.n = 0 ∨ v.n = 1 then 0 else 6)
  else if f.kind = 2 then (if v.n < -1099511627776 ∨ 1099511627776 < v.n then 2 else 0)
  else if f.kind = 3 then (if plainF v.s = true then 0 else 1)
  else if f.kind = 4 then (if meansF ((findT b f.type).getD .zero) v.n = true then 0 else 6)
  else 0

def hasI (l : List Int) (n : Int) : Bool := l.any fun m => decide (m = n)

/-- The type of a name, nothing if there is none. -/
def typeOf (b : BookD) (name : ByteArray) : TypeD := (findT b name).getD .zero

/-- Has it all that is always there? -/
def fullF (t : TypeD) (ids : List Int) : Bool := t.fields.all fun f => decide (f.rule ≠ 1) || hasI ids f.id
/-- What is wrong with a number's place. -/
def placeF (t : TypeD) (last : Option Int) (id : Int) : Int := match fieldOf t id with
  | none => 3
  | some f => match last with
    | none => 0
    | some k => if id < k then 1 else if k = id ∧ f.rule ≠ 3 then 4 else 0
mutual
def typedF (b : BookD) : TypeD → ValueD → Int
  | t, .mk kind n s ids l =>
    if kind ≠ 2 then 5 else if ids.length ≠ l.length ∨ n ≠ 0 ∨ s.size ≠ 0 then 1
    else if typedGo b t none ids l ≠ 0 then typedGo b t none ids l
    else if fullF t ids = true then 0 else 3
def typedGo (b : BookD) : TypeD → Option Int → List Int → List ValueD → Int
  | _, _, _, [] => 0
  | t, last, ids, x :: l => match ids with
    | [] => 0
    | id :: ids =>
      if placeF t last id ≠ 0 then placeF t last id
      else if fitsF b ((fieldOf t id).getD .zero) x ≠ 0 then fitsF b ((fieldOf t id).getD .zero) x
      else if ((fieldOf t id).getD .zero).kind = 5 ∧ typedF b (typeOf b ((fieldOf t id).getD .zero).type) x ≠ 0 then typedF b (typeOf b ((fieldOf t id).getD .zero).type) x
      else typedGo b t (some id) ids l
end

def noneB (b : BookD) (name : ByteArray) : Bool := match findT b name with | none => true | some t => t.enum
def TypedF (b : BookD) (name : ByteArray) (v : ValueD) : Int :=
  if goodF b ≠ 0 then 1 else if noneB b name = true then 3 else if smallF v = false then 7 else typedF b (typeOf b name) v

/-- The least of a field; how deep is told by the first number. -/
def leastOfF (b : BookD) (k : Nat) (f : FieldD) : ValueD :=
  if f.kind = 3 then .mk 1 0 ⟨#[]⟩ [] []
  else if f.kind = 4 then .mk 0 (((typeOf b f.type).items.head?.map (·.n)).getD 0) ⟨#[]⟩ [] []
  else if f.kind = 5 then match k with
    | 0 => .zero
    | k + 1 => msgV (((typeOf b f.type).fields.filter fun g => decide (g.rule = 1)).map (·.id)) (((typeOf b f.type).fields.filter fun g => decide (g.rule = 1)).map (leastOfF b k))
  else .zero
/-- The least of a type. -/
def leastTF (b : BookD) (k : Nat) (t : TypeD) : ValueD := msgV ((t.fields.filter fun g => decide (g.rule = 1)).map (·.id)) ((t.fields.filter fun g => decide (g.rule = 1)).map (leastOfF b k))

/-- Parts of fields and values; the inner ones' bytes are known. -/
def partOf (id : Int) (x : ValueD) (inner : List UInt8) : Part := ⟨id, x.kind, x.n, if x.kind = 2 then ⟨inner.toArray⟩ else x.s⟩
mutual
def encV : ValueD → List UInt8 × Int
  | .mk _ _ _ ids l => if (partsGo ids l []).2 ≠ 0 then ([], (partsGo ids l []).2) else encL (partsGo ids l []).1 []
def partsGo : List Int → List ValueD → List Part → List Part × Int
  | _, [], acc => (acc, 0)
  | ids, x :: l, acc => match ids with
    | [] => (acc, 0)
    | id :: ids => if x.kind = 2 ∧ (encV x).2 ≠ 0 then ([], (encV x).2) else partsGo ids l (acc ++ [partOf id x (encV x).1])
end
def EncodeF (b : BookD) (name : ByteArray) (v : ValueD) : List UInt8 × Int := if TypedF b name v ≠ 0 then ([], TypedF b name v) else encV v

/-- With the least of what lacks, by numbers. -/
def filledGo (b : BookD) (k : Nat) (ids : List Int) (l : List ValueD) (f : FieldD) : List (Int × ValueD) :=
  (if f.rule = 1 ∧ hasI ids f.id = false then [(f.id, leastOfF b k f)] else []) ++ (ids.zip l).filter fun p => decide (p.1 = f.id)
def filledF (b : BookD) (k : Nat) (t : TypeD) (ids : List Int) (l : List ValueD) : ValueD :=
  msgV ((t.fields.flatMap (filledGo b k ids l)).map (·.1)) ((t.fields.flatMap (filledGo b k ids l)).map (·.2))
/-- A value out of a part, not looked into. -/
def bareV (p : Part) : ValueD := .mk p.kind p.n (if p.kind = 1 then p.s else ⟨#[]⟩) [] []
def fallsF (last : Option Int) (id : Int) : Bool := match last with | none => false | some k => decide (id < k)
/-- Parts read as a type, one after another. -/
def decGo (b : BookD) (rec : TypeD → List UInt8 → ValueD × Int) (t : TypeD) : Option Int → List Part → List Int → List ValueD → (List Int × List ValueD) × Int
  | _, [], ids, l => ((ids, l), 0)
  | last, p :: ps, ids, l =>
    if fallsF last p.id = true then (([], []), 1)
    else match fieldOf t p.id with
      | none => decGo b rec t (some p.id) ps ids l
      | some f =>
        if fitsF b f (bareV p) ≠ 0 then (([], []), fitsF b f (bareV p))
        else if f.rule ≠ 3 ∧ hasI ids p.id = true then (([], []), 4)
        else if f.kind = 5 then
          (if (rec (typeOf b f.type) (bytes p.s)).2 ≠ 0 then (([], []), (rec (typeOf b f.type) (bytes p.s)).2)
           else decGo b rec t (some p.id) ps (ids ++ [p.id]) (l ++ [(rec (typeOf b f.type) (bytes p.s)).1]))
        else decGo b rec t (some p.id) ps (ids ++ [p.id]) (l ++ [bareV p])
def decV (b : BookD) : Nat → TypeD → List UInt8 → ValueD × Int
  | 0, _, _ => (.zero, 7)
  | k + 1, t, s =>
    if (decF s).2 ≠ 0 then (.zero, (decF s).2)
    else if (decGo b (decV b k) t none (decF s).1 [] []).2 ≠ 0 then (.zero, (decGo b (decV b k) t none (decF s).1 [] []).2)
    else (filledF b 4 t (decGo b (decV b k) t none (decF s).1 [] []).1.1 (decGo b (decV b k) t none (decF s).1 [] []).1.2, 0)
def DecodeF (b : BookD) (name : ByteArray) (s : List UInt8) : ValueD × Int :=
  if goodF b ≠ 0 then (.zero, 1) else if noneB b name = true then (.zero, 3)
  else if (decV b 24 (typeOf b name) s).2 ≠ 0 then (.zero, (decV b 24 (typeOf b name) s).2)
  else if smallF (decV b 24 (typeOf b name) s).1 = false then (.zero, 7) else ((decV b 24 (typeOf b name) s).1, 0)
def LeastF (b : BookD) (name : ByteArray) : ValueD × Int :=
  if goodF b ≠ 0 then (.zero, 1) else if noneB b name = true then (.zero, 3) else (leastTF b 4 (typeOf b name), 0)
end Go.Proofs.YtaadnlopifaagaaDoor
