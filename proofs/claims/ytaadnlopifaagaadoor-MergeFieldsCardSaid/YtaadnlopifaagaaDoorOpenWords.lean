/- From the listed variable's datum to the words that a walk reads. -/
import Derived.Test.YtaadnlopifaagaaDoorRows
import Derived.Test.YtaadnlopifaagaaDoorOpen
import Derived.Test.YtaadnlopifaagaaDoorBookNamed
import Derived.LaidMore
import Derived.MakeChecks
namespace Go.Proofs.YtaadnlopifaagaaDoor
open Go.RowKit Go.ChangeShapes Go.WideShapes Go.Deep

theorem strs_of_trod {P : Program} {H : Type} {enc : TypeId × Value → H} {W : World} {spare : Nat → Bool} {held : Bool} {fuel t e : Nat} {cs : List Value} {l : List (List UInt8)} {p : List MemPlace}
    (ht : P.underlying t = some (.slice e)) (he : P.underlying e = some .string) (hc : P.cellsOf e = 1) (hs : l.length * 16 ≤ 140737488351232)
    (h : DataW.trod enc P W 0 spare held fuel t cs = some (.slice (l.map fun b => .lit (.string b)) [], p)) :
    ∃ v, cs = [v] ∧ RSl 1 16 RStr (fun _ => True) W [v] (l.map fun b => ⟨b.toArray⟩) := by
  rcases open_slice1 ht hc h with ⟨rfl, hx⟩ | ⟨a, len, cap, m, n, V, D, Pl, rfl, hb, hl, hm, hmm, hx, hi⟩
  · cases (Prod.mk.inj hx).1
  · obtain ⟨h1, h2⟩ := DataW.slice.inj (Prod.mk.inj hx).1
    have hlen : l.length = len := by simpa using congrArg List.length h1
    have hlm : len ≤ m := by rw [hmm]; split <;> omega
    refine ⟨_, rfl, some a, cap, by simp [hlen], by simp [hlen]; exact hl, by simpa using hs, ?_⟩
    intro k x hx
    rw [List.getElem?_map] at hx
    have hk : k < l.length := by
      rcases Nat.lt_or_ge k l.length with h | h
      · exact h
      · rw [List.getElem?_eq_none h] at hx; cases hx
    rw [List.getElem?_eq_getElem hk] at hx
    simp only [Option.map_some, Option.some.injEq] at hx
    obtain ⟨hcell, htr⟩ := hi k (by omega)
    obtain ⟨s, e1, e2, _⟩ := DataW.trod_string he htr
    have hd : D k = .lit (.string l[k]) := by
      have := congrArg (·[k]?) h1
      simp only [List.getElem?_map, List.getElem?_eq_getElem hk, List.getElem?_range (show k < len by omega), Option.map_some, Option.some.injEq] at this
      exact this.symm
    have hsb : s.data.toList = l[k] := by
      rw [hd] at e2
      have := (Prod.mk.inj e2).1
      injection this with this
      injection this with this
      exact this.symm
    have hV : V k = .string x := by
      have h0 : V k = .string s := by simpa using e1
      rw [h0, ← hx, ← hsb]
    have hlt := World.block_lt_of_cell? W _ hcell
    have hsp := World.cell?_spot (hi 0 (by omega)).1
    obtain ⟨g, o, sp⟩ := a
    have hs0 : sp = none := by simpa [Addr.add] using hsp
    subst hs0
    have hadd : (⟨g, o, none⟩ : Addr).add k = ⟨g, o + k, none⟩ := by unfold Addr.add; split <;> simp_all
    rw [hadd] at hcell hlt
    refine ⟨g, o, [.string x], rfl, trivial, hlt, rfl, rfl, fun j hj => ?_⟩
    have : j = 0 := by simpa using hj
    subst this
    rw [Nat.mul_one, Nat.add_zero, hcell, hV]; rfl

/-- A world that meets a row's list of the one variable reads it as the words. -/
theorem words_of_laid {W : World} (h : laidMet Tryd.prog [("patternbook/book.words", Rows.laid_patternbook_book_words)] W) : Words W := by
  obtain ⟨ps, ⟨g, t, cs, fuel, p, q, hg, ht, hv, hd, _, _⟩, _, _⟩ := h
  obtain rfl := Option.some.inj ((show Tryd.prog.globalNamed "patternbook/book.words" = some 0 by kernel_rfl).symm.trans hg)
  obtain rfl := Option.some.inj ((show (Tryd.prog.globals[0]?).map (·.type) = some 40 by kernel_rfl).symm.trans ht)
  obtain ⟨v, hv1, hr⟩ := strs_of_trod (l := [[98, 111, 111, 108], [101, 110, 117, 109], [103, 111, 110, 101], [105, 110, 116], [109, 97, 110, 121], [109, 97, 121, 98, 101], [109, 101, 115, 115, 97, 103, 101], [111, 110, 101], [116, 101, 120, 116]]) Tryd.underlying40 Tryd.underlying9 (by kernel_rfl) (by decide) hd
  refine ⟨v, ?_, hr⟩
  rw [World.var?_cell hg hv 0]
  have : cs.toList[0]? = some v := by rw [hv1]; rfl
  simpa using this
end Go.Proofs.YtaadnlopifaagaaDoor
