/- The walk of the statement RepoNil. -/
import Derived.Test.YtchmhdhkbojciacGreatDoorRep
import Derived.Test.YtchmhdhkbojciacGreatDoorProg
import Derived.Test.YtchmhdhkbojciacGreatDoorBytes
import Derived.Handy
namespace Go.Proofs.YtchmhdhkbojciacGreatDoor
open Go.RowKit

/-- A reply that is a code alone. -/
def codeCells (c : Int) : List Value := [.int .i64 c, .int .i64 0, .string ⟨#[]⟩, .slice none 0 0]

set_option maxRecDepth 100000 in
theorem no_any (c : Int) (w : World) : Calls Tryz.prog 99 #[.int .i64 c] w (Ret w (.agg (codeCells c).toArray)) := by
  go_enter Tryz.func99, Tryz.ntmps99
  go_wp2_with fail
  go_returns
  exact ⟨rfl, (Below.refl _ _).alloc (Nat.le_refl _) _⟩

set_option maxRecDepth 100000 in
theorem doNil_any (k n m : Int) (a b c : ByteArray) (w : World) :
    Calls Tryz.prog 41 #[.pointer none, .agg #[.int .i64 k, .int .i64 n, .int .i64 m, .string a, .string b, .string c]] w (Ret w (.agg (codeCells 3).toArray)) := by
  go_enter Tryz.func41, Tryz.ntmps41
  go_wp2_with fail
  refine (no_any _ _).mono ?_
  rintro e w1 ⟨rfl, hb1⟩
  have hbx : Box w1 (w.heap.size + 1) 65 [.int .i64 0, .int .i64 0, .string ⟨#[]⟩, .slice none 0 0] := by
    refine Box.below ?_ hb1 (by simp)
    have := Box.new (w.alloc (.cells #[.int .i64 k, .int .i64 n, .int .i64 m, .string a, .string b, .string c] 60)) 65 [.int .i64 0, .int .i64 0, .string ⟨#[]⟩, .slice none 0 0]
    simpa using this
  have c0 : w1.cell? ⟨w.heap.size + 1, 0, none⟩ = some (.int .i64 0) := hbx.cell 0
  have c1 : w1.cell? ⟨w.heap.size + 1, 1, none⟩ = some (.int .i64 0) := hbx.cell 1
  have c2 : w1.cell? ⟨w.heap.size + 1, 2, none⟩ = some (.string ⟨#[]⟩) := hbx.cell 2
  have c3 : w1.cell? ⟨w.heap.size + 1, 3, none⟩ = some (.slice none 0 0) := hbx.cell 3
  have f0 : w1.frozen? ⟨w.heap.size + 1, 0, none⟩ = false := hbx.frozen 0
  have f1 : w1.frozen? ⟨w.heap.size + 1, 1, none⟩ = false := hbx.frozen 1
  have f2 : w1.frozen? ⟨w.heap.size + 1, 2, none⟩ = false := hbx.frozen 2
  have f3 : w1.frozen? ⟨w.heap.size + 1, 3, none⟩ = false := hbx.frozen 3
  have hbw : Below w.heap.size w w1 := below_via (((Below.refl _ _).alloc (Nat.le_refl _) _).alloc (by simp) _) hb1 (by simp; omega)
  clear hb1
  unfold codeCells
  go_wp2_with fail
  have hb5 := (((hbx.set_ 0 (.int .i64 3)).set_ 1 (.int .i64 0)).set_ 2 (.string ⟨#[]⟩)).set_ 3 (.slice none 0 0)
  have hle : w.heap.size ≤ w.heap.size + 1 := by omega
  have hw5 := (((hbw.setCell (p := ⟨w.heap.size + 1, 0, none⟩) hle (.int .i64 3)).setCell (p := ⟨w.heap.size + 1, 1, none⟩) hle (.int .i64 0)).setCell (p := ⟨w.heap.size + 1, 2, none⟩) hle (.string ⟨#[]⟩)).setCell (p := ⟨w.heap.size + 1, 3, none⟩) hle (.slice none 0 0)
  clear hbx c0 c1 c2 c3 f0 f1 f2 f3 hbw
  generalize (((w1.setCell ⟨w.heap.size + 1, 0, none⟩ (.int .i64 3)).setCell ⟨w.heap.size + 1, 1, none⟩ (.int .i64 0)).setCell ⟨w.heap.size + 1, 2, none⟩ (.string ⟨#[]⟩)).setCell ⟨w.heap.size + 1, 3, none⟩ (.slice none 0 0) = W at *
  have d0 : W.cell? ⟨w.heap.size + 1, 0, none⟩ = some (.int .i64 3) := hb5.cell 0
  have d1 : W.cell? ⟨w.heap.size + 1, 1, none⟩ = some (.int .i64 0) := hb5.cell 1
  have d2 : W.cell? ⟨w.heap.size + 1, 2, none⟩ = some (.string ⟨#[]⟩) := hb5.cell 2
  have d3 : W.cell? ⟨w.heap.size + 1, 3, none⟩ = some (.slice none 0 0) := hb5.cell 3
  try simp only [Exit.inBlock, Exit.then]
  refine bodyPost_ret (v := .agg (codeCells 3).toArray) (by simp [results, Tryz.results41, go_sem, d0, d1, d2, d3, codeCells]) rfl ?_
  exact ⟨rfl, hw5⟩

set_option maxRecDepth 100000 in
theorem commitsNil_any (w : World) : Calls Tryz.prog 42 #[.pointer none] w (Ret w (.slice none 0 0)) := by
  go_enter Tryz.func42, Tryz.ntmps42
  go_wp2_with fail
  go_ret
  exact ⟨rfl, Below.refl _ _⟩
set_option maxRecDepth 100000 in
theorem refsNil_any (w : World) : Calls Tryz.prog 43 #[.pointer none] w (Ret w (.slice none 0 0)) := by
  go_enter Tryz.func43, Tryz.ntmps43
  go_wp2_with fail
  go_ret
  exact ⟨rfl, Below.refl _ _⟩
set_option maxRecDepth 100000 in
theorem sameNoFlaws_any (w : World) : Calls Tryz.prog 50 #[.slice none 0 0, .slice none 0 0] w (Ret w (.bool true)) := by
  go_enter Tryz.func50, Tryz.ntmps50
  go_wp2_with fail
  go_loopw [13] (fun i wr => i = .int .i64 0 ∧ Below w.heap.size w wr) (fun _ _ => 0)
  case atStart => exact ⟨rfl, Below.refl _ _⟩
  case round =>
    obtain ⟨rfl, hb⟩ := hrel
    go_wp2_with fail
    go_ret
    exact ⟨rfl, hb⟩
set_option maxRecDepth 100000 in
theorem sameCode_any (c : Int) (w : World) : Calls Tryz.prog 40 #[.agg (codeCells c).toArray, .agg (codeCells c).toArray] w (Ret w (.bool true)) := by
  unfold codeCells
  go_enter Tryz.func40, Tryz.ntmps40
  go_wp2_with fail
  refine (sameNoFlaws_any _).mono ?_
  rintro e w1 ⟨rfl, hb1⟩
  have hbw : Below w.heap.size w w1 := below_via (((Below.refl _ _).alloc (Nat.le_refl _) _).alloc (by simp) _) hb1 (by simp; omega)
  go_wp2_with fail
  go_ret
  exact ⟨rfl, hbw⟩

set_option maxRecDepth 100000 in
theorem repoNil_any (k n m : Int) (a b c : ByteArray) (w : World) :
    Calls Tryz.prog 7 #[.agg #[.int .i64 k, .int .i64 n, .int .i64 m, .string a, .string b, .string c]] w (Ret w (.bool true)) := by
  go_enter Tryz.func7, Tryz.ntmps7
  go_wp2_with fail
  refine (doNil_any _ _ _ _ _ _ _).mono ?_
  rintro e w1 ⟨rfl, hb1⟩
  go_wp2_with fail
  have hw1 : Below w.heap.size w w1 := below_via ((Below.refl _ _).alloc (Nat.le_refl _) _) hb1 (by simp)
  clear hb1
  refine (sameCode_any 3 _).mono ?_
  rintro e w2 ⟨rfl, hb2⟩
  have hw2 := below_via hw1 hb2 hw1.size
  clear hw1 hb2
  go_wp2_with fail
  refine (commitsNil_any _).mono ?_
  rintro e w3 ⟨rfl, hb3⟩
  have hw3 := below_via hw2 hb3 hw2.size
  clear hw2 hb3
  go_wp2_with fail
  refine (refsNil_any _).mono ?_
  rintro e w4 ⟨rfl, hb4⟩
  have hw4 := below_via hw3 hb4 hw3.size
  clear hw3 hb4
  go_wp2_with fail
  go_ret
  exact ⟨rfl, hw4⟩
end Go.Proofs.YtchmhdhkbojciacGreatDoor
