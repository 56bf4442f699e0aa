/- The walks of merge.field, gone, item. -/
import Derived.Test.YtaadnlopifaagaaDoorMergeKind
namespace Go.Proofs.YtaadnlopifaagaaDoor
open Go.RowKit


set_option maxRecDepth 100000 in
set_option maxHeartbeats 4000000 in
theorem field_any (S : Nat → Prop) (cs : List Value) (t : TypeD) (id : Int) (w : World) (ht : RType S w cs t) : Calls Tryd.prog 25 #[.agg cs.toArray, .int .i64 id] w (StPost w (fieldS t id)) := by
  obtain ⟨B1, l1, B2, l2, B3, l3, rfl, -, -, -⟩ := ht.parts
  have HT := Lib.hid ht
  obtain ⟨x1, x2, x3⟩ := boxes2 w [.string t.name, .bool t.enum, .slice B1 t.fields.length l1, .slice B2 t.gone.length l2, .slice B3 t.items.length l3] [.bool false, .bool false, .int .i64 0, .string ⟨#[]⟩, .string ⟨#[]⟩, .int .i64 0, .int .i64 0, .string ⟨#[]⟩] 51 43
  obtain ⟨c0, c1, c2, c3, c4⟩ := x1.five
  have hl1 := x1.lt
  clear ht
  go_enter Tryd.func25, Tryd.ntmps25
  go_wp2_with fail
  refine (fieldOf_any S _ t id _ (RType.fair.below HT.out x3)).mono ?_
  rintro e w1 ⟨rfl, hb1⟩
  have hw1 := below_via x3 hb1 x3.size
  have y2 := x2.below hb1 x2.lt
  obtain ⟨f, hty⟩ : ∃ f, f = (fieldOf t id).getD FieldD.zero := ⟨_, rfl⟩
  obtain ⟨ok, hok⟩ : ∃ ok, ok = (fieldOf t id).isSome := ⟨_, rfl⟩
  have Hr := Lib.hid (show fieldS t id = ⟨ok, false, f, ⟨#[]⟩⟩ by rw [hok, hty]; rfl)
  rw [← hty, ← hok]
  unfold fieldCells
  obtain ⟨r0, r1, r2, r3, r4, r5, r6, r7⟩ := y2.eight
  have g0 := y2.frozen 0
  have g1 := y2.frozen 1
  have g2 := y2.frozen 2
  have g3 := y2.frozen 3
  have g4 := y2.frozen 4
  have g5 := y2.frozen 5
  have g6 := y2.frozen 6
  have g7 := y2.frozen 7
  have hlr := y2.lt
  clear hty hok hb1 x1 x2 x3 c0 c1 c2 c3 c4 hl1
  go_wp2_with fail
  change bodyPost _ _ _ _ _ ((setCells w1 (w.heap.size + 1) 0 [.bool ok, .bool false, .int .i64 f.id, .string f.name, .string f.type, .int .i64 f.kind, .int .i64 f.rule, .string ⟨#[]⟩]).alloc (.cells #[.int .i64 f.id, .string f.name, .string f.type, .int .i64 f.kind, .int .i64 f.rule] 36))
  have hb5 := (y2.setCells [.bool ok, .bool false, .int .i64 f.id, .string f.name, .string f.type, .int .i64 f.kind, .int .i64 f.rule, .string ⟨#[]⟩] rfl).alloc (.cells #[.int .i64 f.id, .string f.name, .string f.type, .int .i64 f.kind, .int .i64 f.rule] 36)
  have hw5 := below_setCells (g := w.heap.size + 1) (by go_light; omega) [.bool ok, .bool false, .int .i64 f.id, .string f.name, .string f.type, .int .i64 f.kind, .int .i64 f.rule, .string ⟨#[]⟩] 0 _ hw1
  have hw6 := hw5.alloc hw5.size (.cells #[.int .i64 f.id, .string f.name, .string f.type, .int .i64 f.kind, .int .i64 f.rule] 36)
  clear hw5 r0 r1 r2 r3 r4 r5 r6 r7 g0 g1 g2 g3 g4 g5 g6 g7
  generalize (setCells w1 (w.heap.size + 1) 0 _).alloc _ = W5 at hb5 hw6 ⊢
  rw [Hr.out]
  exact bodyPost_ret (field_results hb5 rfl) rfl ⟨rfl, hw6⟩
end Go.Proofs.YtaadnlopifaagaaDoor
