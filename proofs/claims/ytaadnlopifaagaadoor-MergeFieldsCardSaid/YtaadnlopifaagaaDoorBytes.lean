/- Rows of bytes of the call's own: appended to by a string; read as a string. -/
import Derived.Test.YtaadnlopifaagaaDoorRep
import Derived.Lib.AppendStr
namespace Go.Proofs.YtaadnlopifaagaaDoor
open Go.RowKit Go.Lib

abbrev bytes (s : ByteArray) : List UInt8 := s.data.toList
def RByte : Rel UInt8 := RFlat fun b => [.int .u8 b.toNat]
theorem RByte.fair : Fair RByte := RFlat.fair _
theorem bytes_extract (s : ByteArray) (a b : Nat) : bytes (s.extract a b) = ((bytes s).drop a).take (b - a) := by
  simp only [bytes, ByteArray.data_extract, Array.toList_extract]
theorem bytes_from (s : ByteArray) (a : Nat) : bytes (s.extract a s.size) = (bytes s).drop a := by
  rw [bytes_extract, List.take_of_length_le]
  simp [bytes]
theorem bytes_to (s : ByteArray) (b : Nat) : bytes (s.extract 0 b) = (bytes s).take b := by
  rw [bytes_extract]; simp
theorem ba_of {s : ByteArray} {l : List UInt8} (h : bytes s = l) : s = ⟨l.toArray⟩ := by
  subst h; obtain ⟨⟨l⟩⟩ := s; rfl
theorem bytes_append (a b : ByteArray) : bytes (a ++ b) = bytes a ++ bytes b := by simp [bytes]
theorem bytes_len (s : ByteArray) : (bytes s).length = s.size := rfl
theorem bytes_of (l : List UInt8) : bytes ⟨l.toArray⟩ = l := rfl
def byteV (b : UInt8) : Value := .int .u8 b.toNat

theorem flatten_one : ∀ xs : List UInt8, (xs.map fun b => [byteV b]).flatten = xs.map byteV
  | [] => rfl
  | x :: xs => by simp [flatten_one xs]
theorem own_bytes_cells {base e : Nat} {T : Nat → Prop} {w : World} {v : Value} {xs : List UInt8} (h : Own base e 1 RByte T w v xs) :
    w.ownsRow base e 1 v xs.length (xs.map byteV) ∧ (∀ k, v.ownBlock = some k → ¬ T k) := by
  obtain ⟨css, h1, h2, h3, h4⟩ := h
  have hf : css.flatten = xs.map byteV := by
    have : css = xs.map fun b => [byteV b] := by
      apply List.ext_getElem
      · simp [h2]
      · intro k hk1 hk2
        have := (h4 k (xs[k]'(by omega)) css[k] (List.getElem?_eq_getElem (by omega)) (List.getElem?_eq_getElem hk1)).2
        simp [RByte, RFlat] at this
        simp [this, byteV]
    rw [this, flatten_one]
  rw [hf] at h1
  exact ⟨h1, h3⟩
theorem own_bytes_of {base e : Nat} {T : Nat → Prop} {w : World} {v : Value} {xs : List UInt8} (h : w.ownsRow base e 1 v xs.length (xs.map byteV)) (h3 : ∀ k, v.ownBlock = some k → ¬ T k) : Own base e 1 RByte T w v xs := by
  refine ⟨xs.map fun b => [byteV b], ?_, by simp, h3, ?_⟩
  · rw [flatten_one]; exact h
  · intro k x cs hx hc
    simp [List.getElem?_map, hx] at hc
    subst hc
    exact ⟨rfl, rfl⟩

section
variable {P : Program} (w : World)
theorem run_append_str {t u ty e base : Nat} {T : Nat → Prop} {v : Value} {xs : List UInt8} (hi : SlInfo P t e 1 1) (hz : (P.info? e).bind (·.zero) = some (.int .u8 0)) (hu : P.underlying u = some .string)
    (hown : Own base e 1 RByte T w v xs) (s : ByteArray) (hT : ∀ g, T g → g < w.heap.size) (hb : xs.length + s.size ≤ 140737488355328) (hbase : base ≤ w.heap.size) :
    ∃ v' w', (Builtin.append_ #[t, u] ty #[v, .string s]).run P w = .ok v' w' ∧ Own base e 1 RByte T w' v' (xs ++ bytes s) ∧ w.grownBy w' v.ownBlock ∧ (v'.ownBlock = v.ownBlock ∨ v'.ownBlock = some w.heap.size) := by
  obtain ⟨ht, _, _, i, z, hi1, hz1, hs1, hby, hzs⟩ := hi
  have hz0 : z = .int .u8 0 := by
    rw [hi1] at hz
    simp [hz1] at hz
    exact hz
  subst hz0
  obtain ⟨h1, h3⟩ := own_bytes_cells hown
  have hsb : strCells s = (bytes s).map byteV := rfl
  have hsz : s.size = (bytes s).length := rfl
  have hml : xs.length + s.size ≤ maxLen := by unfold maxLen; omega
  have mk : ∀ v' w', w'.ownsRow base e 1 v' (xs.length + s.size) (xs.map byteV ++ strCells s) → (v'.ownBlock = v.ownBlock ∨ v'.ownBlock = some w.heap.size) → Own base e 1 RByte T w' v' (xs ++ bytes s) := by
    intro v' w' h h'
    refine own_bytes_of (by rw [List.length_append, List.map_append, ← hsz, ← hsb]; exact h) fun k hk => ?_
    rcases h' with h' | h'
    · exact h3 k (h' ▸ hk)
    · rw [h'] at hk; cases hk
      intro hk; have := hT _ hk; omega
  have grown : ∀ (old : Nat), old < xs.length + s.size → ∀ (row : Option Nat),
      (w.drew.alloc (.cells ((xs.map byteV).toArray ++ (strCells s).toArray ++ Builtin.zeroCells (Value.int .u8 0).cells (grownCap w (xs.length + s.size) old e - (xs.length + s.size))) e)).ownsRow base e 1
        (.slice (some ⟨w.heap.size, 0, none⟩) (xs.length + s.size) (grownCap w (xs.length + s.size) old e)) (xs.length + s.size) (xs.map byteV ++ strCells s) ∧
      w.grownBy (w.drew.alloc (.cells ((xs.map byteV).toArray ++ (strCells s).toArray ++ Builtin.zeroCells (Value.int .u8 0).cells (grownCap w (xs.length + s.size) old e - (xs.length + s.size))) e)) row := by
    intro old _ row
    have hge := grownCap_ge w (xs.length + s.size) old e
    have hlen : (xs.map byteV ++ strCells s).length = (xs.length + s.size) * 1 := by rw [List.length_append, strCells_length, List.length_map, Nat.mul_one]
    refine ⟨⟨hlen, .inr ⟨w.heap.size, _, _, rfl, hbase, heap_alloc_new w.drew _, hge, grownCap_le_maxLen w _ old e hml, ?_, ?_⟩⟩, ⟨rfl, rfl, rfl, by simp, fun k hk _ => Below.heap_alloc w.drew _ k hk⟩⟩
    · have hz1 : (Value.int IntKind.u8 0).cells.size = 1 := rfl
      simp only [Array.size_append, List.size_toArray, size_zeroCells, hz1, strCells_length, List.length_map]
      omega
    · simp only [Array.toList_append, List.append_assoc]
      rw [← List.append_assoc, ← hlen]
      exact List.take_left
  rcases h1.2 with ⟨rfl, hx0⟩ | ⟨g, cap, cur, rfl, hbg, hg, hnc, hcm, hcs, htake⟩
  · have hx : xs = [] := List.eq_nil_of_length_eq_zero hx0
    subst hx
    by_cases hm : s.size = 0
    · have hn : strCells s = [] := List.eq_nil_of_length_eq_zero (by rw [strCells_length]; exact hm)
      refine ⟨.slice none 0 0, w, ?_, mk _ _ (by rw [hm, hn]; exact World.ownsRow_nil w base e 1) (.inl rfl), World.grownBy.refl w _, .inl rfl⟩
      have hf := run_firstCells_string (P := P) w 1 s
      rw [hm] at hf
      simp [Builtin.append_, run_underlying ht, run_underlying hu, sizeOf, typeInfo, hi1, hs1, Builtin.lenOf, hm, hf]
    · have hr := run_append_nil_string (P := P) w t u ty e i (.int .u8 0) ht hu hi1 hz1 s (by omega) (by omega) (by rw [hby]; simp at hb; omega)
      have hgr := grown 0 (by simp; omega) (Value.ownBlock (.slice none 0 0))
      simp only [List.length_nil, Nat.zero_add, List.nil_append, Array.empty_append, List.map_nil] at hgr
      have e1 : (s.data.map fun b => Value.int .u8 b.toNat) = (strCells s).toArray := by
        apply Array.ext'
        simp [strCells]
      rw [e1] at hr
      exact ⟨_, _, hr, mk _ _ (by simpa using hgr.1) (.inr rfl), hgr.2, .inr rfl⟩
  · by_cases hroom : xs.length + s.size ≤ cap
    · have hcs' : cur.size = cap := by simpa using hcs
      have hr := run_append_room_string (P := P) w t u ty e i ht hu hi1 hs1 g xs.length cap cur hg s hroom (by omega)
      refine ⟨_, _, hr, mk _ _ ⟨by rw [List.length_append, strCells_length, List.length_map, Nat.mul_one], .inr ⟨g, cap, _, rfl, hbg, setRow_heap w g cur _ e _ hg, hroom, hcm, ?_, ?_⟩⟩ (.inl rfl), ⟨rfl, rfl, rfl, by simp, fun k _ hk => setRow_other w g k _ (fun e => hk (by simp [Value.ownBlock, e]))⟩, .inl rfl⟩
      · simp only [List.size_toArray, List.length_append, List.length_take, List.length_drop, Array.length_toList, strCells_length]
        omega
      · have ht' : cur.toList.take xs.length = xs.map byteV := by simpa using htake
        have hlen : (xs.map byteV ++ strCells s).length = (xs.length + s.size) * 1 := by rw [List.length_append, strCells_length, List.length_map, Nat.mul_one]
        rw [ht', ← hlen]
        exact List.take_left
    · have holds : ∀ j u, (xs.map byteV)[j]? = some u → w.cell? ((⟨g, 0, none⟩ : Addr).add j) = some u := h1.cells (g := g) rfl
      have hr := run_append_grow_string (P := P) w t u ty e i (.int .u8 0) ht hu hi1 hz1 ⟨g, 0, none⟩ xs.length cap (xs.map byteV) (by rw [hs1]; simp) holds s (by omega) (by omega) (by rw [hby]; exact growslice_fits (by omega) (by omega))
      have hgr := grown cap (by omega) (Value.ownBlock (.slice (some ⟨g, 0, none⟩) xs.length cap))
      exact ⟨_, _, hr, mk _ _ hgr.1 (.inr rfl), hgr.2, .inr rfl⟩

theorem wl_append_str {ops : Array Oper} {rest : List Oper} {o : Oper} {a : Act} {Q : Exit → Act → World → Prop} (w : World) (hgd : o.guard = none) (sl x : Operand) {t u e base : Nat} {T : Nat → Prop} {v : Value} {xs : List UInt8} {s : ByteArray}
    (ho : o.op = .call { callee := .builtin .append, args := #[sl, x], argTypes := #[t, u] }) (hi : SlInfo P t e 1 1) (hz : (P.info? e).bind (·.zero) = some (.int .u8 0)) (hu : P.underlying u = some .string) (hs : a.eval sl = v) (hx : a.eval x = .string s)
    (hown : Own base e 1 RByte T w v xs) (hT : ∀ g, T g → g < w.heap.size) (hb : xs.length + s.size ≤ 140737488355328) (hbase : base ≤ w.heap.size)
    (h : ∀ v' w', Own base e 1 RByte T w' v' (xs ++ bytes s) → w.grownBy w' v.ownBlock → (v'.ownBlock = v.ownBlock ∨ v'.ownBlock = some w.heap.size) → wpList P ops Q rest (a.put o.dst v') w') : wpList P ops Q (o :: rest) a w :=
  wpList_plain hgd fun _ hK => by
    obtain ⟨v', w', hrun, h2, h3, h4⟩ := run_append_str (P := P) w (ty := o.type) hi hz hu hown s hT hb hbase
    unfold Oper.wp execOp
    simp only [ho, resolve, invoke, builtin, Sem.run_bind, Sem.run_pure, Result.andThen_ok, List.map_toArray, List.map_cons, List.map_nil, hs, hx, hrun]
    exact hK _ _ (h v' w' h2 h3 h4)

theorem step_append_str {ops : Array Oper} {o : Oper} {a : Act} {K : Act → World → Prop} {Q : Exit → Act → World → Prop} {E : Prop} (w : World) (hgd : o.guard = none) (sl x : Operand) {t u e base : Nat} {T : Nat → Prop} {v : Value} {xs : List UInt8} {s : ByteArray}
    (ho : o.op = .call { callee := .builtin .append, args := #[sl, x], argTypes := #[t, u] }) (hi : SlInfo P t e 1 1) (hz : (P.info? e).bind (·.zero) = some (.int .u8 0)) (hu : P.underlying u = some .string) (hs : a.eval sl = v) (hx : a.eval x = .string s)
    (hown : Own base e 1 RByte T w v xs) (hT : ∀ g, T g → g < w.heap.size) (hb : xs.length + s.size ≤ 140737488355328) (hbase : base ≤ w.heap.size)
    (h : ∀ v' w', Own base e 1 RByte T w' v' (xs ++ bytes s) → w.grownBy w' v.ownBlock → (v'.ownBlock = v.ownBlock ∨ v'.ownBlock = some w.heap.size) → K (a.put o.dst v') w') :
    if Region.wanted o (yielded ops a.tmps) = true then Oper.wp P o a w K Q else E := by
  rw [if_pos (show Region.wanted o (yielded ops a.tmps) = true by simp [Region.wanted, hgd])]
  obtain ⟨v', w', hrun, h2, h3, h4⟩ := run_append_str (P := P) w (ty := o.type) hi hz hu hown s hT hb hbase
  unfold Oper.wp execOp
  simp only [ho, resolve, invoke, builtin, Sem.run_bind, Sem.run_pure, Result.andThen_ok, List.map_toArray, List.map_cons, List.map_nil, hs, hx, hrun]
  exact h v' w' h2 h3 h4

theorem foldl_push (xs : List UInt8) : ∀ s : ByteArray, (xs.map fun b => (b.toNat : Int)).foldl (fun r n => r.push (UInt8.ofNat n.toNat)) s = ⟨(s.data.toList ++ xs).toArray⟩ := by
  induction xs with
  | nil => intro s; simp
  | cons x xs ih =>
    intro s
    simp only [List.map_cons, List.foldl_cons]
    rw [ih]
    congr 1
    simp [ByteArray.push]

/-- 'string(b)'. -/
theorem run_string_of {t u e base : Nat} {T : Nat → Prop} {v : Value} {xs : List UInt8} (ht : P.underlying t = some (.slice e)) (he : P.underlying e = some (.int .u8)) (hu : P.underlying u = some .string)
    (hown : Own base e 1 RByte T w v xs) : (convert t u v).run P w = .ok (.string ⟨xs.toArray⟩) w := by
  obtain ⟨h1, _⟩ := own_bytes_cells hown
  rcases h1.2 with ⟨rfl, hx0⟩ | ⟨g, cap, cur, rfl, hbg, hg, hnc, hcm, hcs, htake⟩
  · have hx : xs = [] := List.eq_nil_of_length_eq_zero hx0
    subst hx
    rw [run_convert_bytes_string w t u e _ _ _ ht he hu]
    rfl
  · rw [run_convert_bytes_string w t u e _ _ _ ht he hu, run_bytesToString w _ _ _ (xs.map fun b => (b.toNat : Int)), foldl_push]
    · simp
    · have := run_loadCells_list (P := P) (w := w) ⟨g, 0, none⟩ (xs.map byteV) (h1.cells (g := g) rfl)
      rw [List.map_map]
      rw [List.length_map] at this
      exact this
end
end Go.Proofs.YtaadnlopifaagaaDoor
