/- Books that come in. -/
import Derived.Test.YtaadnlopifaagaaDoorRows
import Derived.Test.YtaadnlopifaagaaDoorOpen
import Derived.Test.YtaadnlopifaagaaDoorBookGood
namespace Go.Proofs.YtaadnlopifaagaaDoor
open Go.RowKit Go.ChangeShapes Go.WideShapes Go.ChangeAt

theorem Tryd.own : ownKnob Tryd.prog.godebug = none := by kernel_rfl
theorem Tryd.laidOut : laidOutB Tryd.prog = true := by kernel_rfl

theorem opens_field : Opens Tryd.prog 36 5 RField (fun f => SizeOk f.name ∧ SizeOk f.type) := by
  intro H enc W spare held fuel cs x hw h
  have hs := Tryd.underlying36
  have hl := open_struct_len hs h
  have hc : Tryd.prog.cellsOf 36 = 5 := by kernel_rfl
  rw [hc] at hl
  obtain ⟨a, _, ha, _⟩ := open_field hs hw h 0 rfl (by kernel_rfl) (opens_int Tryd.underlying3)
  obtain ⟨b, _, hb, hbs⟩ := open_field hs hw h 1 rfl (by kernel_rfl) (opens_str Tryd.underlying9)
  obtain ⟨c, _, hc, hcs⟩ := open_field hs hw h 2 rfl (by kernel_rfl) (opens_str Tryd.underlying9)
  obtain ⟨d, _, hd, _⟩ := open_field hs hw h 3 rfl (by kernel_rfl) (opens_int Tryd.underlying3)
  obtain ⟨e, _, he, _⟩ := open_field hs hw h 4 rfl (by kernel_rfl) (opens_int Tryd.underlying3)
  match cs, hl with
  | [c0, c1, c2, c3, c4], _ =>
    have e0 : c0 = .int .i64 a := by simpa [RInt, RFlat] using ha
    have e1 : c1 = .string b := by simpa [RStr, RFlat] using hb
    have e2 : c2 = .string c := by simpa [RStr, RFlat] using hc
    have e3 : c3 = .int .i64 d := by simpa [RInt, RFlat] using hd
    have e4 : c4 = .int .i64 e := by simpa [RInt, RFlat] using he
    subst e0 e1 e2 e3 e4
    exact ⟨⟨a, b, c, d, e⟩, rfl, rfl, hbs, hcs⟩
theorem opens_item : Opens Tryd.prog 68 2 RItem (fun x => SizeOk x.name) := by
  intro H enc W spare held fuel cs x hw h
  have hs := Tryd.underlying68
  have hl := open_struct_len hs h
  have hc : Tryd.prog.cellsOf 68 = 2 := by kernel_rfl
  rw [hc] at hl
  obtain ⟨a, _, ha, has⟩ := open_field hs hw h 0 rfl (by kernel_rfl) (opens_str Tryd.underlying9)
  obtain ⟨b, _, hb, _⟩ := open_field hs hw h 1 rfl (by kernel_rfl) (opens_int Tryd.underlying3)
  match cs, hl with
  | [c0, c1], _ =>
    have e0 : c0 = .string a := by simpa [RStr, RFlat] using ha
    have e1 : c1 = .int .i64 b := by simpa [RInt, RFlat] using hb
    subst e0 e1
    exact ⟨⟨a, b⟩, rfl, rfl, has⟩
theorem opens_type : Opens Tryd.prog 51 5 RType (fun t => SizeOk t.name ∧ (∀ f ∈ t.fields, SizeOk f.name ∧ SizeOk f.type) ∧ (∀ x ∈ t.items, SizeOk x.name)) := by
  intro H enc W spare held fuel cs x hw h
  have hs := Tryd.underlying51
  have hl := open_struct_len hs h
  have hc : Tryd.prog.cellsOf 51 = 5 := by kernel_rfl
  rw [hc] at hl
  obtain ⟨a, _, ha, has⟩ := open_field hs hw h 0 rfl (by kernel_rfl) (opens_str Tryd.underlying9)
  obtain ⟨b, _, hb, _⟩ := open_field hs hw h 1 rfl (by kernel_rfl) (opens_bool Tryd.underlying4)
  obtain ⟨c, _, hc, hcs⟩ := open_field hs hw h 2 rfl (by kernel_rfl) (opens_slice (sz := 5) (by_ := 56) Tryd.underlying47 (by kernel_rfl) (by decide) (by kernel_rfl) opens_field)
  obtain ⟨d, _, hd, _⟩ := open_field hs hw h 3 rfl (by kernel_rfl) (opens_slice (sz := 1) (by_ := 8) Tryd.underlying48 (by kernel_rfl) (by decide) (by kernel_rfl) (opens_int Tryd.underlying3))
  obtain ⟨e, _, he, hes⟩ := open_field hs hw h 4 rfl (by kernel_rfl) (opens_slice (sz := 2) (by_ := 24) Tryd.underlying49 (by kernel_rfl) (by decide) (by kernel_rfl) opens_item)
  match cs, hl with
  | [c0, c1, c2, c3, c4], _ =>
    have e0 : c0 = .string a := by simpa [RStr, RFlat] using ha
    have e1 : c1 = .bool b := by simpa [RFlat] using hb
    subst e0 e1
    exact ⟨⟨a, b, c, d, e⟩, rfl, ⟨c2, c3, c4, rfl, hc, hd, he⟩, has, hcs, hes⟩
theorem opens_book : Opens Tryd.prog 24 1 (RSl 5 96 RType) BookOk := by
  intro H enc W spare held fuel cs x hw h
  have hs := Tryd.underlying24
  have hl := open_struct_len hs h
  have hc : Tryd.prog.cellsOf 24 = 1 := by kernel_rfl
  rw [hc] at hl
  obtain ⟨a, _, ha, has⟩ := open_field hs hw h 0 rfl (by kernel_rfl) (opens_slice (sz := 5) (by_ := 96) Tryd.underlying22 (by kernel_rfl) (by decide) (by kernel_rfl) opens_type)
  match cs, hl with
  | [c0], _ => exact ⟨a, rfl, ha, has⟩
end Go.Proofs.YtaadnlopifaagaaDoor
