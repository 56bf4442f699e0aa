/- The walks of merge.kind, field, gone, item. -/
import Derived.Deep.Light
import Derived.Test.YtaadnlopifaagaaDoorMergeWalks
namespace Go.Proofs.YtaadnlopifaagaaDoor
open Go.RowKit

theorem kind_results {W : World} {a : Act} {g : Nat} {c0 c1 c2 c3 c4 c5 c6 c7 : Value} (hb : Box W g 43 [c0, c1, c2, c3, c4, c5, c6, c7]) (h4 : a.tmps.getD 4 undef = .pointer (some ⟨g, 0, none⟩)) :
    (results Tryd.f13 a.tmps).run Tryd.prog W = .ok (.agg #[c0, c1, c2, c3, c4, c5, c6, c7]) W := by
  obtain ⟨e0, e1, e2, e3, e4, e5, e6, e7⟩ := hb.eight
  simp only [Array.getD_eq_getD_getElem?] at h4
  simp [results, Tryd.results13, go_sem, h4, e0, e1, e2, e3, e4, e5, e6, e7]
theorem field_results {W : World} {a : Act} {g : Nat} {c0 c1 c2 c3 c4 c5 c6 c7 : Value} (hb : Box W g 43 [c0, c1, c2, c3, c4, c5, c6, c7]) (h4 : a.tmps.getD 4 undef = .pointer (some ⟨g, 0, none⟩)) :
    (results Tryd.f25 a.tmps).run Tryd.prog W = .ok (.agg #[c0, c1, c2, c3, c4, c5, c6, c7]) W := by
  obtain ⟨e0, e1, e2, e3, e4, e5, e6, e7⟩ := hb.eight
  simp only [Array.getD_eq_getD_getElem?] at h4
  simp [results, Tryd.results25, go_sem, h4, e0, e1, e2, e3, e4, e5, e6, e7]

set_option maxRecDepth 100000 in
set_option maxHeartbeats 4000000 in
theorem kind_any (S : Nat → Prop) (vb : Value) (b : BookD) (name : ByteArray) (w : World) (hb0 : RSl 5 96 RType S w [vb] b) : Calls Tryd.prog 13 #[.agg #[vb], .string name] w (StPost w (kindS b name)) := by
  obtain ⟨A, cap, rfl, hlc, hlb⟩ := hb0.form
  have HB := Lib.hid hb0
  obtain ⟨x1, x2, x3⟩ := boxes2 w [.slice A b.length cap] [.bool false, .bool false, .int .i64 0, .string ⟨#[]⟩, .string ⟨#[]⟩, .int .i64 0, .int .i64 0, .string ⟨#[]⟩] 24 43
  clear hb0
  go_enter Tryd.func13, Tryd.ntmps13
  go_wp2_with fail
  refine (find_any S _ b name _ ((RSl.fair RType.fair).below HB.out x3)).mono ?_
  rintro e w1 ⟨cs3, rfl, hr3, hb1⟩
  obtain ⟨B1, l1, B2, l2, B3, l3, rfl, -, -, -⟩ := hr3.parts
  have hw1 := below_via x3 hb1 x3.size
  have y2 := x2.below hb1 x2.lt
  obtain ⟨ty, hty⟩ : ∃ ty, ty = (findT b name).getD TypeD.zero := ⟨_, rfl⟩
  obtain ⟨ok, hok⟩ : ∃ ok, ok = (findT b name).isSome := ⟨_, rfl⟩
  have Hr := Lib.hid (show kindS b name = ⟨ok, ty.enum, .zero, ⟨#[]⟩⟩ by rw [hok, hty]; rfl)
  rw [← hty, ← hok]
  obtain ⟨r0, r1, r2, r3, r4, r5, r6, r7⟩ := y2.eight
  have g0 := y2.frozen 0
  have g1 := y2.frozen 1
  have g2 := y2.frozen 2
  have g3 := y2.frozen 3
  have g4 := y2.frozen 4
  have g5 := y2.frozen 5
  have g6 := y2.frozen 6
  have g7 := y2.frozen 7
  have hlr := y2.lt
  clear hty hok hr3 hb1 x1 x2 x3
  go_wp2_with fail
  change bodyPost _ _ _ _ _ ((setCells w1 (w.heap.size + 1) 0 [.bool ok, .bool ty.enum, .int .i64 0, .string ⟨#[]⟩, .string ⟨#[]⟩, .int .i64 0, .int .i64 0, .string ⟨#[]⟩]).alloc (.cells #[.string ty.name, .bool ty.enum, .slice B1 ty.fields.length l1, .slice B2 ty.gone.length l2, .slice B3 ty.items.length l3] 51))
  have hb5 := (y2.setCells [.bool ok, .bool ty.enum, .int .i64 0, .string ⟨#[]⟩, .string ⟨#[]⟩, .int .i64 0, .int .i64 0, .string ⟨#[]⟩] rfl).alloc (.cells #[.string ty.name, .bool ty.enum, .slice B1 ty.fields.length l1, .slice B2 ty.gone.length l2, .slice B3 ty.items.length l3] 51)
  have hw5 := below_setCells (g := w.heap.size + 1) (by go_light; omega) [.bool ok, .bool ty.enum, .int .i64 0, .string ⟨#[]⟩, .string ⟨#[]⟩, .int .i64 0, .int .i64 0, .string ⟨#[]⟩] 0 _ hw1
  have hw6 := hw5.alloc hw5.size (.cells #[.string ty.name, .bool ty.enum, .slice B1 ty.fields.length l1, .slice B2 ty.gone.length l2, .slice B3 ty.items.length l3] 51)
  clear hw5 r0 r1 r2 r3 r4 r5 r6 r7 g0 g1 g2 g3 g4 g5 g6 g7
  generalize (setCells w1 (w.heap.size + 1) 0 _).alloc _ = W5 at hb5 hw6 ⊢
  rw [Hr.out]
  exact bodyPost_ret (kind_results hb5 rfl) rfl ⟨rfl, hw6⟩
end Go.Proofs.YtaadnlopifaagaaDoor
