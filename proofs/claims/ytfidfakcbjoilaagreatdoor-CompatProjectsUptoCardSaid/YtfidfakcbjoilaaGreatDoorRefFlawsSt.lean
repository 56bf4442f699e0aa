/- Where the document's own flaws stand: what is met and what is found, as they lie in two maps. -/
import Derived.Test.YtfidfakcbjoilaaGreatDoorRefFlawsLaw
import Derived.Test.YtfidfakcbjoilaaGreatDoorRefMapB
import Derived.Test.YtfidfakcbjoilaaGreatDoorRefReads
set_option linter.all false
namespace Go.Proofs.YtfidfakcbjoilaaGreatDoor
open Go.RowKit Go.Maps
theorem map_two : Tryz.prog.underlying 90 = some (.map 89 4) := Tryz.underlying90
theorem map_flaw : Tryz.prog.underlying 91 = some (.map 60 4) := Tryz.underlying91
theorem le_max {n : Nat} (h : n ≤ 140737488351232) : n ≤ maxLen := Nat.le_trans h (by unfold maxLen; decide)
def memK (met : List (ByteArray × ByteArray)) (q : ByteArray × ByteArray) : Bool := met.any fun p => decide (p = q)
theorem memK_iff {met : List (ByteArray × ByteArray)} {q : ByteArray × ByteArray} : memK met q = true ↔ q ∈ met := by
 unfold memK
 rw [List.any_eq_true]
 constructor
 ·rintro ⟨p, hp, h⟩
  rw [← of_decide_eq_true h]; exact hp
 ·intro h; exact ⟨q, h, by simp⟩
theorem memK_true {met : List (ByteArray × ByteArray)} {q : ByteArray × ByteArray} (h : q ∈ met) : memK met q = true := memK_iff.2 h
theorem memK_false {met : List (ByteArray × ByteArray)} {q : ByteArray × ByteArray} (h : q ∉ met) : memK met q = false := by
 cases e : memK met q with
 | false => rfl
 | true => exact absurd (memK_iff.1 e) h
theorem memK_cons (met : List (ByteArray × ByteArray)) (x q : ByteArray × ByteArray) : memK (x :: met) q = (decide (q = x) || memK met q) := by
 unfold memK
 rw [List.any_cons]
 congr 1
 by_cases h : q = x
 ·simp [h]
 ·simp [h, Ne.symm h]
structure StR (bw br : BookD) (name : ByteArray) (n0 : Nat) (S : TypeD → TypeD → FieldD → Prop) (bm bf : Nat) (w : World) (met : List (ByteArray × ByteArray)) (found : List FlawD) (more : Bool) (n : Nat) : Prop where
 run : RunR bw br name n0 S met found more
 mm : MapB 89 keyV w bm met.length (memK met)
 mf : MapB 60 flawV w bf n (fun x => decide (x ∈ found))
section
variable {bw br : BookD} {name : ByteArray} {n0 bm bf n : Nat} {S : TypeD → TypeD → FieldD → Prop} {w w' : World} {met : List (ByteArray × ByteArray)} {found : List FlawD} {more : Bool}
theorem StR.below (h : StR bw br name n0 S bm bf w met found more n) (hb : Below w.heap.size w w') : StR bw br name n0 S bm bf w' met found more n := ⟨h.run, h.mm.below hb, h.mf.below hb⟩
theorem StR.alloc (h : StR bw br name n0 S bm bf w met found more n) (o : Obj) : StR bw br name n0 S bm bf (w.alloc o) met found more n := ⟨h.run, h.mm.alloc o, h.mf.alloc o⟩
theorem StR.lt (h : StR bw br name n0 S bm bf w met found more n) : bm < w.heap.size ∧ bf < w.heap.size := ⟨h.mm.lt, h.mf.lt⟩
theorem StR.turn (h : StR bw br name n0 S bm bf w met found more n) {n1 : Nat} {S' : TypeD → TypeD → FieldD → Prop} {more' : Bool} (hr : RunR bw br name n1 S' met found more') : StR bw br name n1 S' bm bf w met found more' n := ⟨hr, h.mm, h.mf⟩
theorem StR.met_look (h : StR bw br name n0 S bm bf w met found more n) {a b : ByteArray} (ha : a.size ≤ 140737488351232) (hb : b.size ≤ 140737488351232) : (Instr.lookup 90 (.map (some bm)) (.agg #[.string a, .string b]) false).run Tryz.prog w = .ok (.bool (memK met (a, b))) w :=
 h.mm.look law_pair map_two (x := (a, b)) ⟨_, key_pair (le_max ha) (le_max hb)⟩
theorem StR.found_look (h : StR bw br name n0 S bm bf w met found more n) {t : ByteArray} {i y : Int} (ht : t.size ≤ 140737488351232) (h1 : (Lit.int .i64 i).wf = true) (h2 : (Lit.int .i64 y).wf = true) : (Instr.lookup 91 (.map (some bf)) (.agg #[.string t, .int .i64 i, .int .i64 y]) false).run Tryz.prog w = .ok (.bool (decide ((⟨t, i, y⟩ : FlawD) ∈ found))) w :=
 h.mf.look law_flaw map_flaw (x := (⟨t, i, y⟩ : FlawD)) (key_of_flaw (f := ⟨t, i, y⟩) (le_max ht) h1 h2)
theorem StR.tell (h : StR bw br name n0 S bm bf w met found more n) (hw : goodF bw = 0) (hr : goodF br = 0) {a b : TypeD} (ha : a ∈ bw) (hb : b ∈ br) (hin : (a.name, b.name) ∈ met) {f g : FieldD} (hf : f ∈ a.fields) (hg : fieldOf b f.id = some g) {y : Int} (hy : y ∈ readsF bw br f g) (hs : a.name.size ≤ 140737488351232) (hn : n ≤ 1048576) (hne : bm ≠ bf) :
  ∃ w', (Instr.mapUpdate 91 (.map (some bf)) (.agg #[.string a.name, .int .i64 f.id, .int .i64 y]) (.bool true)).run Tryz.prog w = .ok () w' ∧ StR bw br name n0 S bm bf w' met (⟨a.name, f.id, y⟩ :: found) more (n + 1) ∧ w.grownBy w' (some bf) := by
 have hfp := field_at hw ha hf
 have hyy := (reads_whys hw hr hfp (field_at hr hb (fieldOf_in hg))).1 hy
 have h1 : (Lit.int .i64 f.id).wf = true := WalkArith.wf_i64 (by have := hfp.2.1; have := hfp.2.2.1; omega)
 have h2 : (Lit.int .i64 y).wf = true := WalkArith.wf_i64 (by rcases why_one hyy with ⟨rfl, _⟩ | ⟨rfl, _⟩ | ⟨rfl, _⟩ <;> omega)
 obtain ⟨w', hr', hm, hg'⟩ := h.mf.put law_flaw map_flaw flawV_inj (x := (⟨a.name, f.id, y⟩ : FlawD)) (key_of_flaw (f := ⟨a.name, f.id, y⟩) (le_max hs) h1 h2) hn
 refine ⟨w', hr', ⟨h.run.found_ hw hr ha hb hin hf hg hy (fun x hx => List.mem_cons_of_mem _ hx) (fun x hx => (List.mem_cons.1 hx).symm), h.mm.kept hg' (fun e => hne (Option.some.inj e)), hm.congr fun x => ?_⟩, hg'⟩
 simp [List.mem_cons]
theorem StR.meet (h : StR bw br name n0 S bm bf w met found more n) (hn : bothF bw br name = 0) {a b : TypeD} (ha : a ∈ bw) (hb : b ∈ br) (hin : (a.name, b.name) ∈ met) {f g : FieldD} (hf : f ∈ a.fields) (hg : fieldOf b f.id = some g) (h5 : f.kind = 5) (h6 : g.kind = 5) (hno : (f.type, g.type) ∉ met) (hs : f.type.size ≤ 140737488351232) (hs2 : g.type.size ≤ 140737488351232) (hne : bm ≠ bf) (S' : TypeD → TypeD → FieldD → Prop) :
  ∃ w', (Instr.mapUpdate 90 (.map (some bm)) (.agg #[.string f.type, .string g.type]) (.bool true)).run Tryz.prog w = .ok () w' ∧ StR bw br name n0 S' bm bf w' ((f.type, g.type) :: met) found true n ∧ w.grownBy w' (some bm) := by
 have hl := h.run.few hn
 obtain ⟨w', hr', hm, hg'⟩ := h.mm.put law_pair map_two keyV_inj (x := (f.type, g.type)) ⟨_, key_pair (le_max hs) (le_max hs2)⟩ (by omega)
 refine ⟨w', hr', ⟨h.run.met_ hn ha hb hin hf hg h5 h6 hno S', hm.congr fun x => (memK_cons _ _ _).symm, h.mf.kept hg' (fun e => hne (Option.some.inj e).symm)⟩, hg'⟩
end
theorem RunR.start_ {bw br : BookD} {name : ByteArray} (S : TypeD → TypeD → FieldD → Prop) : RunR bw br name 0 S [(name, name)] [] true :=
 ⟨by simp, by simp, fun q hq => by
  rw [List.mem_singleton] at hq
  subst hq
  have h0 : (pairsF bw br name)[0]? = some ⟨name, name, -1, 0⟩ := go_keeps 18 0 _ rfl
  exact ⟨_, List.mem_of_getElem? h0, rfl⟩, fun x hx => by simp at hx, Nat.zero_le _, fun _ => by simp, fun h => by cases h⟩
noncomputable def metN (U : List (ByteArray × ByteArray)) (b : Nat) (w : World) : Nat := (U.filter fun q => @decide (∃ n h, MapB 89 keyV w b n h ∧ h q = true) (Classical.propDecidable _)).length
theorem metN_eq {U met : List (ByteArray × ByteArray)} {b n : Nat} {w : World} (hU : U.Nodup) (hk : ∀ q ∈ U, q.1.size ≤ 140737488351232 ∧ q.2.size ≤ 140737488351232) (hm : MapB 89 keyV w b n (memK met)) (hd : met.Nodup) (hs : ∀ q ∈ met, q ∈ U) : metN U b w = met.length := by
 have key : ∀ q ∈ U, ((∃ n h, MapB 89 keyV w b n h ∧ h q = true) ↔ q ∈ met) := by
  intro q hq
  constructor
  ·rintro ⟨n', h', hm', hh⟩
   have e1 := hm.look law_pair map_two (x := q) ⟨_, key_pair (le_max (hk q hq).1) (le_max (hk q hq).2)⟩
   have e2 := hm'.look law_pair map_two (x := q) ⟨_, key_pair (le_max (hk q hq).1) (le_max (hk q hq).2)⟩
   rw [e1, hh] at e2
   have : memK met q = true := by simpa using e2
   exact memK_iff.1 this
  ·intro h; exact ⟨n, _, hm, memK_iff.2 h⟩
 unfold metN
 refine Nat.le_antisymm (nodup_le _ _ (hU.filter _) fun q hq => ?_) (nodup_le _ _ hd fun q hq => ?_)
 ·obtain ⟨h1, h2⟩ := List.mem_filter.1 hq
  exact (key q h1).1 (by simpa using h2)
 ·exact List.mem_filter.2 ⟨hs q hq, by simpa using (key q (hs q hq)).2 hq⟩
noncomputable def cntR (U : List (ByteArray × ByteArray)) (b : Nat) (c : Value) (w : World) : Nat := match c with | .bool true => 18 - metN U b w | _ => 0
theorem keys_ok {bw br : BookD} {name : ByteArray} (hn : bothF bw br name = 0) (o1 : BookOk bw) (o2 : BookOk br) : ((pairsF bw br name).map keyP).Nodup ∧ ∀ q ∈ (pairsF bw br name).map keyP, q.1.size ≤ 140737488351232 ∧ q.2.size ≤ 140737488351232 := by
 obtain ⟨hw, hr, hn1, hn2⟩ := bothF_ok hn
 have hok : PairsOk bw br (pairsF bw br name) := pairsGo_ok hw hr 18 0 _ (pairs_start hn1 hn2)
 refine ⟨hok.1, fun q hq => ?_⟩
 obtain ⟨p, hp, rfl⟩ := List.mem_map.1 hq
 obtain ⟨a, ha, e1⟩ := List.mem_map.1 (findT_mem (hok.2 p hp).1)
 obtain ⟨b, hb, e2⟩ := List.mem_map.1 (findT_mem (hok.2 p hp).2)
 exact ⟨by show p.w.size ≤ _; rw [← e1]; exact (o1 a ha).1, by show p.r.size ≤ _; rw [← e2]; exact (o2 b hb).1⟩
theorem mem_take_succ {α : Type} {l : List α} {k : Nat} (hk : k < l.length) {x : α} : x ∈ l.take (k + 1) ↔ x ∈ l.take k ∨ x = l[k] := by
 rw [List.take_succ_eq_append_getElem hk, List.mem_append, List.mem_singleton]
def SAr (bw br : BookD) (ka : Nat) (a b : TypeD) (f : FieldD) : Prop := a ∈ bw.take ka ∧ b ∈ br ∧ f ∈ a.fields
def SBr (bw br : BookD) (ka : Nat) (ta : TypeD) (kb : Nat) (a b : TypeD) (f : FieldD) : Prop := SAr bw br ka a b f ∨ (a = ta ∧ b ∈ br.take kb ∧ f ∈ a.fields)
def SFr (bw br : BookD) (ka : Nat) (ta : TypeD) (kb : Nat) (tb : TypeD) (kf : Nat) (a b : TypeD) (f : FieldD) : Prop := SBr bw br ka ta kb a b f ∨ (a = ta ∧ b = tb ∧ f ∈ ta.fields.take kf)
section
variable {bw br : BookD} {name : ByteArray} {n0 bm bf n : Nat} {S : TypeD → TypeD → FieldD → Prop} {w w' : World} {met : List (ByteArray × ByteArray)} {found : List FlawD} {more : Bool} {ka kb kf : Nat} {ta tb : TypeD} {f : FieldD}
theorem StR.begin_ (h : StR bw br name n0 S bm bf w met found more n) : StR bw br name met.length (SAr bw br 0) bm bf w met found false n := h.turn (h.run.fresh.weaken fun a b f hs => by simp [SAr] at hs)
theorem StR.toB (h : StR bw br name n0 (SAr bw br ka) bm bf w met found more n) : StR bw br name n0 (SBr bw br ka ta 0) bm bf w met found more n := h.turn (h.run.weaken fun a b f hs => by simpa [SBr] using hs)
theorem StR.toF (h : StR bw br name n0 (SBr bw br ka ta kb) bm bf w met found more n) : StR bw br name n0 (SFr bw br ka ta kb tb 0) bm bf w met found more n := h.turn (h.run.weaken fun a b f hs => by simpa [SFr] using hs)
theorem StR.skipB (h : StR bw br name n0 (SBr bw br ka ta kb) bm bf w met found more n) (hb : kb < br.length) (e : tb = br[kb]) (hno : (ta.name, tb.name) ∉ met) : StR bw br name n0 (SBr bw br ka ta (kb + 1)) bm bf w met found more n :=
 h.turn (h.run.more_ fun _ a b f hs hin => by
  rcases hs with hs | ⟨rfl, hb', hf⟩
  ·exact .inl (.inl hs)
  ·rcases (mem_take_succ hb).1 hb' with h1 | rfl
   ·exact .inl (.inr ⟨rfl, h1, hf⟩)
   ·exact absurd (e ▸ hin) hno)
theorem StR.endF (h : StR bw br name n0 (SFr bw br ka ta kb tb ta.fields.length) bm bf w met found more n) (hb : kb < br.length) (e : tb = br[kb]) : StR bw br name n0 (SBr bw br ka ta (kb + 1)) bm bf w met found more n :=
 h.turn (h.run.weaken fun a b f hs => by
  rcases hs with hs | ⟨rfl, hb', hf⟩
  ·exact .inl (.inl hs)
  ·rcases (mem_take_succ hb).1 hb' with h1 | rfl
   ·exact .inl (.inr ⟨rfl, h1, hf⟩)
   ·exact .inr ⟨rfl, e.symm, by rw [List.take_length]; exact hf⟩)
theorem StR.endB (h : StR bw br name n0 (SBr bw br ka ta br.length) bm bf w met found more n) (ha : ka < bw.length) (e : ta = bw[ka]) : StR bw br name n0 (SAr bw br (ka + 1)) bm bf w met found more n :=
 h.turn (h.run.weaken fun a b f hs => by
  obtain ⟨h1, h2, h3⟩ := hs
  rcases (mem_take_succ ha).1 h1 with h4 | rfl
  ·exact .inl ⟨h4, h2, h3⟩
  ·exact .inr ⟨e.symm, by rw [List.take_length]; exact h2, h3⟩)
theorem StR.stepF (h : StR bw br name n0 (SFr bw br ka ta kb tb kf) bm bf w met found more n) (hf : kf < ta.fields.length) (hd : DoneF bw br met found ta tb ta.fields[kf]) : StR bw br name n0 (SFr bw br ka ta kb tb (kf + 1)) bm bf w met found more n :=
 h.turn (h.run.more_ fun _ a b f hs hin => by
  rcases hs with hs | ⟨rfl, rfl, hf'⟩
  ·exact .inl (.inl hs)
  ·rcases (mem_take_succ hf).1 hf' with h1 | rfl
   ·exact .inl (.inr ⟨rfl, rfl, h1⟩)
   ·exact .inr hd)
theorem StR.full (h : StR bw br name n0 (SAr bw br bw.length) bm bf w met found false n) (hn : bothF bw br name = 0) : ∀ x, x ∈ found ↔ x ∈ flawsL bw br name :=
 (h.run.weaken (S' := fun a b f => a ∈ bw ∧ b ∈ br ∧ f ∈ a.fields) fun a b f hs => ⟨by rw [List.take_length]; exact hs.1, hs.2⟩).all hn
end
end Go.Proofs.YtfidfakcbjoilaaGreatDoor
