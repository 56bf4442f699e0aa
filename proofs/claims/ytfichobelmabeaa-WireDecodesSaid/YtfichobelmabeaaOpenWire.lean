/- Lists of parts that come in. -/
import Derived.Test.YtfichobelmabeaaRows
import Derived.Test.YtfichobelmabeaaOpen
import Derived.Test.YtfichobelmabeaaWireEnc
namespace Go.Proofs.Ytfichobelmabeaa
open Go.RowKit Go.ChangeShapes Go.WideShapes Go.ChangeAt

theorem Try.own : ownKnob Try.prog.godebug = none := by kernel_rfl
theorem Try.laidOut : laidOutB Try.prog = true := by kernel_rfl

theorem opens_part : Opens Try.prog 27 4 RPart (fun p => p.s.size ≤ maxLen) := by
  intro H enc W spare held fuel cs x hw h
  have hs := Try.underlying27
  have hl := open_struct_len hs h
  have hc : Try.prog.cellsOf 27 = 4 := by kernel_rfl
  rw [hc] at hl
  obtain ⟨a, _, ha, _⟩ := open_field hs hw h 0 rfl (by kernel_rfl) (opens_int Try.underlying3)
  obtain ⟨b, _, hb, _⟩ := open_field hs hw h 1 rfl (by kernel_rfl) (opens_int Try.underlying3)
  obtain ⟨c, _, hc, _⟩ := open_field hs hw h 2 rfl (by kernel_rfl) (opens_int Try.underlying3)
  obtain ⟨d, _, hd, hds⟩ := open_field hs hw h 3 rfl (by kernel_rfl) (opens_str Try.underlying9)
  match cs, hl with
  | [c0, c1, c2, c3], _ =>
    have e0 : c0 = .int .i64 a := by simpa [RInt, RFlat] using ha
    have e1 : c1 = .int .i64 b := by simpa [RInt, RFlat] using hb
    have e2 : c2 = .int .i64 c := by simpa [RInt, RFlat] using hc
    have e3 : c3 = .string d := by simpa [RStr, RFlat] using hd
    subst e0 e1 e2 e3
    exact ⟨⟨a, b, c, d⟩, rfl, rfl, by unfold maxLen; show d.size ≤ _; omega⟩

theorem opens_parts : Opens Try.prog 22 1 (RSl 4 40 RPart) (fun l => ∀ p ∈ l, p.s.size ≤ maxLen) :=
  opens_slice Try.underlying22 (by kernel_rfl) (by decide) (by kernel_rfl) opens_part

end Go.Proofs.Ytfichobelmabeaa
