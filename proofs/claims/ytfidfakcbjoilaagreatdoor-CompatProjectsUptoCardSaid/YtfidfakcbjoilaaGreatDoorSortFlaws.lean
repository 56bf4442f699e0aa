/- slices.SortFunc at flaws: the shelf's contract in the words of our rows. -/
import Derived.Test.YtfidfakcbjoilaaGreatDoorFlawOrd
set_option linter.all false
set_option maxRecDepth 100000
set_option maxHeartbeats 8000000
namespace Go.Proofs.YtfidfakcbjoilaaGreatDoor
open Go.RowKit Go.Sort Go.Shelf
instance : Inhabited FlawD := ⟨⟨⟨#[]⟩, 0, 0⟩⟩
theorem Own.holdsK {α : Type} [Inhabited α] {enc : α → List Value} {base e k g cap n : Nat} {w : World} {xs : List α} (hk : ∀ x, (enc x).length = k) (k0 : 0 < k) (h : Own base e k (RFlat enc) NoT w (.slice (some ⟨g, 0, none⟩) n cap) xs) : HoldsK enc k w g 0 xs.toArray := by
 obtain ⟨css, h1, h2, h3, h4⟩ := h
 have hfr : ∀ i, w.frozen? ⟨g, i, none⟩ = false := by
  intro i
  rcases h1.2 with ⟨h0, _⟩ | ⟨g', cap', cur, h0, _, hh, _⟩
  ·cases h0
  ·simp only [Value.slice.injEq, Option.some.injEq, Addr.mk.injEq] at h0
   obtain ⟨⟨rfl, _, _⟩, _, _⟩ := h0
   simp [World.frozen?, hh]
 intro t ht
 rw [size_flatK] at ht
 have ht' : t < xs.length * k := by simpa using ht
 have hq : t / k < xs.length := Nat.div_lt_of_lt_mul (by rw [Nat.mul_comm]; exact ht')
 have hm : t % k < k := Nat.mod_lt _ k0
 have hx : xs[t / k]? = some xs[t / k] := List.getElem?_eq_getElem hq
 have hc : css[t / k]? = some (css[t / k]'(by omega)) := List.getElem?_eq_getElem (by omega)
 obtain ⟨hl1, hr⟩ := h4 (t / k) _ _ hx hc
 have hcs : css[t / k]'(by omega) = enc xs[t / k] := hr
 have hall : ∀ x ∈ css, x.length = k := by
  intro c hc
  obtain ⟨i, hi, rfl⟩ := List.getElem_of_mem hc
  exact (h4 i (xs[i]'(by omega)) _ (List.getElem?_eq_getElem (by omega)) (List.getElem?_eq_getElem hi)).1
 have hfl := flatten_get css k (t / k) (t % k) _ hall hc hm
 rw [hcs, Nat.div_add_mod' t k, List.getElem?_eq_getElem (show t % k < (enc xs[t / k]).length by rw [hk]; exact hm)] at hfl
 have := h1.cells (g := g) rfl t _ hfl
 have hadd : (⟨g, 0, none⟩ : Addr).add t = ⟨g, 0 + t, none⟩ := by unfold Addr.add; split <;> simp_all
 rw [hadd] at this
 refine ⟨?_, hfr _⟩
 rw [this, get_flatK _ _ _ _ ht]
 simp [getElem!_pos, hq, hk, hm]
theorem Own.putK {α : Type} [Inhabited α] {enc : α → List Value} {base e k g cap n m : Nat} {w : World} {xs ys : List α} {os : Array Obj} (hk : ∀ x, (enc x).length = k) (k0 : 0 < k) (h : Own base e k (RFlat enc) NoT w (.slice (some ⟨g, 0, none⟩) n cap) xs) (hy : ys.length = xs.length) :
  Own base e k (RFlat enc) NoT (sortWorldK enc k w g 0 m ys.toArray os) (.slice (some ⟨g, 0, none⟩) n cap) ys := by
 obtain ⟨css, h1, h2, h3, h4⟩ := h
 have hn : n = xs.length := by
  rcases h1.2 with ⟨h0, _⟩ | ⟨g', cap', cur, h0, _⟩
  ·cases h0
  ·simp only [Value.slice.injEq] at h0; exact h0.2.1
 have hfl : (ys.map enc).flatten.length = ys.length * k := by
  clear hy h1 h2 h3 h4
  induction ys with
  | nil => simp
  | cons y l ih => simp only [List.map_cons, List.flatten_cons, List.length_append, ih, hk, List.length_cons, Nat.add_mul]; omega
 rcases h1.2 with ⟨h0, _⟩ | ⟨g', cap', cur, h0, hbg, hh, hnc, hcm, hcs, htk⟩
 ·cases h0
 ·simp only [Value.slice.injEq, Option.some.injEq, Addr.mk.injEq] at h0
  obtain ⟨⟨rfl, _, _⟩, hnx, rfl⟩ := h0
  have hgl : g < w.heap.size := (Array.getElem?_eq_some_iff.1 hh).1
  refine ⟨ys.map enc, ⟨by rw [hfl], .inr ⟨g, cap, putCells id 0 (flatK enc k ys.toArray) cur, by rw [hy, hn], hbg, ?_, by omega, hcm, by simp [putCells, hcs], ?_⟩⟩, by simp, h3, ?_⟩
  ·show (grow (putRow id (Sort.ahead w m) g 0 (flatK enc k ys.toArray)) os).heap[g]? = _
   rw [heap_grow_old _ os (by rw [size_putRow]; exact hgl)]
   simp only [putRow, mapBlock, Array.getElem?_modify]
   have e : (Sort.ahead w m).heap[g]? = w.heap[g]? := rfl
   rw [e, hh]
   rfl
  ·apply List.ext_getElem?
   intro j
   by_cases hj : j < ys.length * k
   ·have hq : j / k < ys.length := Nat.div_lt_of_lt_mul (by rw [Nat.mul_comm]; exact hj)
    have hm : j % k < k := Nat.mod_lt _ k0
    have hj2 : j < cur.size := by
     rw [hcs]
     exact Nat.lt_of_lt_of_le hj (Nat.mul_le_mul_right k (by omega))
    have hf := flatten_get (ys.map enc) k (j / k) (j % k) (enc ys[j / k]) (fun x hx => by obtain ⟨y, -, rfl⟩ := List.mem_map.1 hx; exact hk y) (by rw [List.getElem?_map, List.getElem?_eq_getElem hq]; rfl) hm
    rw [Nat.div_add_mod' j k] at hf
    rw [hf, List.getElem?_take_of_lt hj, Array.getElem?_toList]
    simp only [putCells, Array.getElem?_mapIdx, Array.getElem?_eq_getElem hj2, Option.map_some]
    rw [if_pos ⟨by omega, by rw [size_flatK]; simpa using hj⟩, Nat.sub_zero, get_flatK _ _ _ _ (by simpa using hj)]
    simp [getElem!_pos, hq, hk, hm]
   ·rw [List.getElem?_eq_none (show (List.take _ _).length ≤ j by rw [List.length_take]; omega), List.getElem?_eq_none (show (List.map enc ys).flatten.length ≤ j by rw [hfl]; omega)]
  ·intro i x cs hx hc
   rw [List.getElem?_map, hx] at hc
   simp only [Option.map_some, Option.some.injEq] at hc
   subst hc
   exact ⟨hk x, rfl⟩
theorem flaws_sorted {l : List FlawD} {d' : Array FlawD} (hp : PermIn 0 l.toArray.size l.toArray d') (hs : SortedIn (ltOf flawC) 0 l.toArray.size d') : d' = (sortS ltFlaw l).toArray := by
 obtain ⟨h1, -, h3⟩ := hp
 have hz : d'.size = l.length := by simpa using h1
 have hd : d'.extract 0 l.toArray.size = d' := by rw [← h1]; simp
 have hl : l.toArray.extract 0 l.toArray.size = l.toArray := by simp
 rw [hd, hl] at h3
 have hperm : d'.toList.Perm l := by simpa using h3
 have hpw : d'.toList.Pairwise (fun a b => ltFlaw b a = false) := by
  rw [List.pairwise_iff_getElem]
  intro i j hi hj hij
  have := hs i j (Nat.zero_le _) hij (by simpa [hz] using hj)
  rw [ltOf_flaw] at this
  have hi' : i < d'.size := by simpa using hi
  have hj' : j < d'.size := by simpa using hj
  simpa [getElem!_pos, hi', hj'] using this
 rw [← sorted_flaws hperm hpw]
theorem insF_none (fv : Value) (w : World) : Calls Tryz.prog 68 #[.slice none 0 0, .int .i64 0, .int .i64 0, fv] w fun e w' => e = .returned (.tuple #[]) ∧ w' = w := by
 go_enter Tryz.func68, Tryz.ntmps68
 go_wp2
 refine wp_loop_rounds 1 ?_
 rw [rounds_succ]
 go_wp2
 go_end0
 exact ⟨rfl, rfl⟩
theorem pdqF_none (lim : Int) (fv : Value) (w : World) : Calls Tryz.prog 42 #[.slice none 0 0, .int .i64 0, .int .i64 0, .int .i64 lim, fv] w fun e w' => e = .returned (.tuple #[]) ∧ w' = w := by
 go_enter Tryz.func42, Tryz.ntmps42
 go_wp2
 refine wp_loop_rounds 1 ?_
 rw [rounds_succ]
 go_wp2_with (go_at_call 68; refine (insF_none _ _).mono ?_; rintro e w' ⟨rfl, rfl⟩)
 (try simp only [Exit.inBlock, Exit.then]); refine bodyPost_ret (results_none rfl _ _ _) rfl ?_
 exact ⟨rfl, rfl⟩
theorem sortF_none (fv : Value) (w : World) : Calls Tryz.prog 20 #[.slice none 0 0, fv] w fun e w' => e = .returned (.tuple #[]) ∧ w' = w := by
 have hl := fun W => Tryz.bits_Len 0 W (by omega) (by omega)
 go_enter Tryz.func20, Tryz.ntmps20
 go_wp2_with (first | (go_at_call 43; refine (hl _).mono ?_; rintro e w' ⟨rfl, rfl⟩) | (go_at_call 42; refine (pdqF_none _ _ _).mono ?_; rintro e w' ⟨rfl, rfl⟩))
 go_end0
 exact ⟨rfl, rfl⟩
theorem sortFlaws_any (base : Nat) (v : Value) (l : List FlawD) (w : World) (ho : Own base 60 3 RFlaw NoT w v l) (hl : l.length ≤ 17592186043904) (hb : base ≤ w.heap.size) :
  Calls Tryz.prog 20 #[v, .func (.func 21) #[] #[]] w fun e w' => e = .returned (.tuple #[]) ∧ Own base 60 3 RFlaw NoT w' v (sortS ltFlaw l) ∧ RowKit.Below base w w' := by
 have hform := ho
 obtain ⟨css, h1, _⟩ := hform
 rcases h1.2 with ⟨rfl, hn⟩ | ⟨g, cap, cur, rfl, hg, hh, hnc, _⟩
 ·have : l = [] := List.eq_nil_of_length_eq_zero hn
  subst this
  refine (sortF_none _ w).mono ?_
  rintro e w' ⟨rfl, rfl⟩
  exact ⟨rfl, Own.nil_ _ _ _ _ _ _, RowKit.Below.refl _ _⟩
 ·have hgl : g < w.heap.size := (Array.getElem?_eq_some_iff.1 hh).1
  have hH : HoldsK flawCells 3 w g 0 l.toArray := Own.holdsK (fun _ => rfl) (by decide) ho
  have eg : ∀ args w, (callFunc 21 args).run Tryz.prog w = .ok (.enter 21 args) w := enters_of Tryz.func21 (by kernel_rfl) rfl
  have hcall := AnyQ.slices_SortFunc Tryz.sortFlaw 3 Tryz.isAgg60 Tryz.sizeOf60 flawCells (fun _ => rfl) (fun x v hv => by simp [flawCells] at hv; rcases hv with rfl | rfl | rfl <;> rfl) flawC (by rw [show ltOf flawC = ltFlaw from funext fun x => funext fun y => ltOf_flaw x y]; exact swo_flaw) 21 #[] g 0 cap l.toArray w eg (fun _ _ _ _ x y => flawCmp_any x y _) hH hgl (by simp; omega)
  refine hcall.mono ?_
  rintro e w' ⟨rfl, d', n, os, hp, hs, rfl⟩
  have hd := flaws_sorted hp hs
  subst hd
  have hgr := grown_put (id : Value → Value) w n g 0 (flatK flawCells 3 (sortS ltFlaw l).toArray) os
  exact ⟨rfl, Own.putK (fun _ => rfl) (by decide) ho (sortS_len l), (RowKit.Below.refl _ _).grown hgr hb (fun g' hg' => by cases hg'; exact hg)⟩
end Go.Proofs.YtfidfakcbjoilaaGreatDoor
