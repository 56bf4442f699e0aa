/- The walk of patternbooklaw.values. -/
import Derived.Deep.Light
import Derived.Test.YtockolmdffehnaaDoorValueRead
namespace Go.Proofs.YtockolmdffehnaaDoor
open Go.RowKit

def fA : FieldD := ⟨3, ⟨#[120]⟩, ⟨#[]⟩, 2, 1⟩
def tA : TypeD := ⟨⟨#[97]⟩, false, [fA], [], []⟩
def bA : BookD := [tA]
def vA : ValueD := .mk 2 0 ⟨#[]⟩ [3] [.mk 0 0 ⟨#[]⟩ [] []]
theorem leastA : LeastF bA ⟨#[97]⟩ = (vA, 0) := by rfl
theorem typedA : TypedF bA ⟨#[97]⟩ vA = 0 := by
  have := (value_least (b := bA) (name := ⟨#[97]⟩) (by rw [leastA])).1
  rw [leastA] at this; exact this
theorem decodeA : DecodeF bA ⟨#[97]⟩ [] = (vA, 0) := by
  have := (value_least (b := bA) (name := ⟨#[97]⟩) (by rw [leastA])).2.1
  rw [leastA] at this; exact this
theorem encA : encV vA = ([12, 0], 0) := by
  simp [vA, encV, partsGo, encL, partOf, ValueD.kind, ValueD.n, ValueD.s, encP, goodP, sev_lt, zig]
  exact ⟨by decide, rfl⟩
theorem encodeA : EncodeF bA ⟨#[97]⟩ vA = ([12, 0], 0) := by
  unfold EncodeF
  rw [if_neg (by rw [typedA]; simp), encA]
theorem bookOkA : BookOk bA := by
  intro t ht
  have : t = tA := by simpa [bA] using ht
  subst this
  refine ⟨(show tA.name.size ≤ 140737488351232 by decide), fun f hf => ?_, fun x hx => by cases hx⟩
  have : f = fA := by simpa [tA] using hf
  subst this
  exact ⟨(show fA.name.size ≤ 140737488351232 by decide), (show fA.type.size ≤ 140737488351232 by decide)⟩
theorem okA : okV vA := by
  simp [vA, okV, okL]
  decide
theorem okV_of {b : BookD} (hg : goodF b = 0) : ∀ (d : Nat) (v : ValueD) (t : TypeD), depthV v ≤ d → MessageP b t → typedF b t v = 0 → okV v
  | 0, .mk _ _ _ _ _, _, hd, _, _ => by rw [depthV] at hd; omega
  | d + 1, .mk kind n s ids l, t, hd, hm, ht => by
    obtain ⟨a1, a2, a3, a4, a5, a6, a7, a8⟩ := (typedF_iff b t _).1 ht
    simp only [ValueD.kind, ValueD.ids, ValueD.l, ValueD.n, ValueD.s] at a1 a2 a3 a4 a5 a6 a7 a8
    rw [depthV] at hd
    rw [okV]
    refine ⟨by omega, okL_of fun x hx => ?_⟩
    obtain ⟨i, hi, rfl⟩ := List.getElem_of_mem hx
    have hz : (ids[i]'(by omega), l[i]) ∈ ids.zip l := List.mem_iff_getElem.2 ⟨i, by simp; omega, by simp⟩
    have hfit := a7 _ hz
    obtain ⟨f, hff⟩ := Option.isSome_iff_exists.1 (a5 (ids[i]'(by omega)) (List.getElem_mem _))
    unfold FitP at hfit
    simp only [hff, Option.getD_some] at hfit
    have hf := msg_field hm (fieldOf_some hff).1
    have hdx := depthL_mem' hx
    by_cases h5 : f.kind = 5
    · obtain ⟨t2, _, h2, _, _, _, hm2⟩ := field_msg hg hf h5
      exact okV_of hg d l[i] t2 (by omega) hm2 (h2 ▸ hfit.2 h5)
    · obtain ⟨hk, ho⟩ := fits_kind hfit.1
      obtain ⟨o1, o2, o3⟩ := odd_iff.1 ho
      generalize hxe : l[i] = x at *
      obtain ⟨xk, xn, xs, xi, xl⟩ := x
      simp only [ValueD.kind, ValueD.ids, ValueD.l, ValueD.n, ValueD.s] at hk o1 o2 o3
      have hk2 : xk ≠ 2 := by
        by_cases h3 : f.kind = 3
        · rw [hk, kindOf, if_pos h3]; decide
        · rw [hk, kindOf, if_neg h3, if_neg h5]; decide
      obtain ⟨rfl, rfl⟩ := o1 hk2
      rw [okV]
      refine ⟨?_, trivial⟩
      by_cases h1 : xk = 1
      · have h3 : f.kind = 3 := by
          by_cases h3 : f.kind = 3
          · exact h3
          · rw [h1, kindOf, if_neg h3, if_neg h5] at hk; simp at hk
        have hp := hfit.1
        unfold fitsF at hp
        rw [if_neg (by simp [ValueD.kind, hk]), if_neg (by rw [ho]; decide), if_neg (by omega), if_neg (by omega), if_pos h3] at hp
        split at hp
        · rename_i hp1
          unfold plainF at hp1
          have h40 : xs.size ≤ 40 := of_decide_eq_true ((Bool.and_eq_true _ _).mp hp1).2
          omega
        · simp at hp
      · have := o3 h1; omega
theorem typed_okV {b : BookD} {name : ByteArray} {v : ValueD} (h : TypedF b name v = 0) : okV v ∧ depthV v ≤ 24 ∧ countV v ≤ 400 := by
  obtain ⟨hg, hn, hs, ht⟩ := TypedF_ok h
  obtain ⟨t, _, e2, hm, _, he⟩ := noneB_type hn
  rw [e2] at ht
  exact ⟨okV_of hg (depthV v) v t (Nat.le_refl _) (good_msg hg hm he) ht, small_iff.1 hs⟩


set_option maxRecDepth 100000 in
set_option maxHeartbeats 1000000 in
theorem values_any (w : World) (hW : Words w) : Calls Tryd.prog 10 #[] w (Ret w (.bool true)) := by
  obtain ⟨x1, x2, x3, x4⟩ := boxes3 w [.int .i64 3, .string ⟨#[120]⟩, .string ⟨#[]⟩, .int .i64 2, .int .i64 1] [.string ⟨#[97]⟩, .bool false, .slice (some ⟨w.heap.size, 0, none⟩) 1 1, .slice none 0 0, .slice none 0 0] [.slice (some ⟨w.heap.size + 1, 0, none⟩) 1 1] 53 51 24
  have HW := Lib.hid hW
  clear hW
  go_enter Tryd.func10, Tryd.ntmps10
  go_wp2_with fail
  generalize hWa : ((w.alloc (.cells [.int .i64 3, .string ⟨#[120]⟩, .string ⟨#[]⟩, .int .i64 2, .int .i64 1].toArray 53)).alloc (.cells [.string ⟨#[97]⟩, .bool false, .slice (some ⟨w.heap.size, 0, none⟩) 1 1, .slice none 0 0, .slice none 0 0].toArray 51)).alloc (.cells [.slice (some ⟨w.heap.size + 1, 0, none⟩) 1 1].toArray 24) = Wa at *
  clear hWa
  have hf : RSl 5 56 RField (fun _ => True) Wa [.slice (some ⟨w.heap.size, 0, none⟩) 1 1] [fA] := RSl.of_box_flat (xs := [fA]) x1 trivial (by decide) (by decide) (fun x _ => rfl)
  have hb : RSl 5 96 RType (fun _ => True) Wa [.slice (some ⟨w.heap.size + 1, 0, none⟩) 1 1] bA := RSl.of_box (css := [[.string ⟨#[97]⟩, .bool false, .slice (some ⟨w.heap.size, 0, none⟩) 1 1, .slice none 0 0, .slice none 0 0]]) (xs := bA) x2 rfl trivial (by decide) (by decide) (by
    intro k x cs hx hcs
    cases k with
    | zero =>
      have e1 : tA = x := by simpa [bA] using hx
      have e2 : [.string ⟨#[97]⟩, .bool false, .slice (some ⟨w.heap.size, 0, none⟩) 1 1, .slice none 0 0, .slice none 0 0] = cs := by simpa using hcs
      subst e1 e2
      exact ⟨rfl, _, _, _, rfl, hf, RSl.nil_, RSl.nil_⟩
    | succ k => simp [bA] at hx)
  have HB := Lib.hid hb
  have hd := vDecode_any (fun _ => True) _ bA ⟨#[97]⟩ ⟨#[]⟩ Wa hb (HW.out.below x4) bookOkA (by decide)
  rw [show bytes ⟨#[]⟩ = [] from rfl, decodeA] at hd
  have Hd := Lib.hid hd
  have c0 : Wa.cell? ⟨w.heap.size + 1 + 1, 0, none⟩ = some (.slice (some ⟨w.heap.size + 1, 0, none⟩) 1 1) := x3.cell 0
  have hl3 := x3.lt
  clear hf hb hd x1 x2
  go_wp2_with fail
  refine Hd.out.mono ?_
  rintro e w1 ⟨cs1, rfl, hr1, hb1⟩
  unfold vA at hr1
  obtain ⟨D1, f1, D2, f2, rfl, -, -⟩ := hr1.parts
  have hw1 := below_via x4 hb1 x4.size
  have y3 := x3.below hb1 x3.lt
  have hwv := hw1.alloc hw1.size (.cells #[.int .i64 2, .int .i64 0, .string ⟨#[]⟩, .slice D1 1 f1, .slice D2 1 f2] 28)
  have hb1v := hb1.alloc hb1.size (.cells #[.int .i64 2, .int .i64 0, .string ⟨#[]⟩, .slice D1 1 f1, .slice D2 1 f2] 28)
  have z3 := y3.alloc (.cells #[.int .i64 2, .int .i64 0, .string ⟨#[]⟩, .slice D1 1 f1, .slice D2 1 f2] 28)
  have zv : Box (w1.alloc (.cells #[.int .i64 2, .int .i64 0, .string ⟨#[]⟩, .slice D1 1 f1, .slice D2 1 f2] 28)) w1.heap.size 28 [.int .i64 2, .int .i64 0, .string ⟨#[]⟩, .slice D1 1 f1, .slice D2 1 f2] := Box.new w1 _ _
  have hr2 := RVal.fair.keep hr1 (Keep.alloc _ w1 (.cells #[.int .i64 2, .int .i64 0, .string ⟨#[]⟩, .slice D1 1 f1, .slice D2 1 f2] 28))
  have he := vEncode_any (fun _ => True) _ _ bA ⟨#[97]⟩ _ vA _ ((RSl.fair RType.fair).below HB.out hb1v) hr2 (HW.out.below hwv) bookOkA okA (by simp [vA, depthV, depthL]) (by simp [vA, countV, countL])
  rw [encodeA] at he
  have He := Lib.hid he
  have c0 : w1.cell? ⟨w.heap.size + 1 + 1, 0, none⟩ = some (.slice (some ⟨w.heap.size + 1, 0, none⟩) 1 1) := y3.cell 0
  have hl3 := y3.lt
  clear hr1 hr2 he hb1 x3 x4 Hd y3
  dsimp only
  go_wp2_with fail
  refine He.out.mono ?_
  rintro e w2 ⟨rfl, hb2⟩
  have hw2 := below_via hwv hb2 hwv.size
  have v4 : w2.cell? ⟨w1.heap.size, 4, none⟩ = some (.slice D2 1 f2) := (zv.below hb2 zv.lt).cell 4
  have hlv := (zv.below hb2 zv.lt).lt
  clear He z3 zv hb2
  dsimp only
  go_wp2_with fail
  go_ret
  exact ⟨rfl, hw2⟩
end Go.Proofs.YtockolmdffehnaaDoor
