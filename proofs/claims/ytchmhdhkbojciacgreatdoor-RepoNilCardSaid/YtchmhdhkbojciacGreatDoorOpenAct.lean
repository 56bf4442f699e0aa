/- An act that comes in. -/
import Derived.Test.YtchmhdhkbojciacGreatDoorRows
import Derived.Test.YtchmhdhkbojciacGreatDoorOpen
namespace Go.Proofs.YtchmhdhkbojciacGreatDoor
open Go.RowKit Go.ChangeShapes Go.WideShapes Go.ChangeAt

theorem Tryz.own : ownKnob Tryz.prog.godebug = none := by kernel_rfl
theorem Tryz.laidOut : laidOutB Tryz.prog = true := by kernel_rfl

/-- An act: Kind, N, M; Name, Other, Text. -/
structure ActD where
  kind : Int
  n : Int
  m : Int
  name : ByteArray
  other : ByteArray
  text : ByteArray
def actCells (a : ActD) : List Value := [.int .i64 a.kind, .int .i64 a.n, .int .i64 a.m, .string a.name, .string a.other, .string a.text]
def RAct : Rel ActD := RFlat actCells

theorem opens_act : Opens Tryz.prog 60 6 RAct (fun a => a.name.size ≤ 140737488351232 ∧ a.other.size ≤ 140737488351232 ∧ a.text.size ≤ 140737488351232) := by
  intro H enc W spare held fuel cs x hw h
  have hs := Tryz.underlying60
  have hl := open_struct_len hs h
  have hc : Tryz.prog.cellsOf 60 = 6 := by kernel_rfl
  rw [hc] at hl
  obtain ⟨a, _, ha, _⟩ := open_field hs hw h 0 rfl (by kernel_rfl) (opens_int Tryz.underlying3)
  obtain ⟨b, _, hb, _⟩ := open_field hs hw h 1 rfl (by kernel_rfl) (opens_int Tryz.underlying3)
  obtain ⟨c, _, hc, _⟩ := open_field hs hw h 2 rfl (by kernel_rfl) (opens_int Tryz.underlying3)
  obtain ⟨d, _, hd, hds⟩ := open_field hs hw h 3 rfl (by kernel_rfl) (opens_str Tryz.underlying9)
  obtain ⟨e, _, he, hes⟩ := open_field hs hw h 4 rfl (by kernel_rfl) (opens_str Tryz.underlying9)
  obtain ⟨f, _, hf, hfs⟩ := open_field hs hw h 5 rfl (by kernel_rfl) (opens_str Tryz.underlying9)
  match cs, hl with
  | [c0, c1, c2, c3, c4, c5], _ =>
    have e0 : c0 = .int .i64 a := by simpa [RInt, RFlat] using ha
    have e1 : c1 = .int .i64 b := by simpa [RInt, RFlat] using hb
    have e2 : c2 = .int .i64 c := by simpa [RInt, RFlat] using hc
    have e3 : c3 = .string d := by simpa [RStr, RFlat] using hd
    have e4 : c4 = .string e := by simpa [RStr, RFlat] using he
    have e5 : c5 = .string f := by simpa [RStr, RFlat] using hf
    subst e0 e1 e2 e3 e4 e5
    exact ⟨⟨a, b, c, d, e, f⟩, rfl, rfl, hds, hes, hfs⟩
end Go.Proofs.YtchmhdhkbojciacGreatDoor
