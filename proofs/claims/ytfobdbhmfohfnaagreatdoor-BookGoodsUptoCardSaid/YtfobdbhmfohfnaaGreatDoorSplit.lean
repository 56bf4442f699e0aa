/- The walk of book.split. -/
import Derived.Test.YtfobdbhmfohfnaaGreatDoorReader
import Derived.Test.YtfobdbhmfohfnaaGreatDoorPLaw
import Derived.Deep.DrawnRows
set_option linter.all false
set_option maxRecDepth 100000
set_option maxHeartbeats 8000000
namespace Go.Proofs.YtfobdbhmfohfnaaGreatDoor
open Go.RowKit
theorem sl_words : SlInfo Tryz.prog 66 9 1 16 := SlInfo.mk (z := .string .empty) Tryz.underlying66 (by decide) (by decide) (by kernel_rfl) rfl
def spl (l : List UInt8) : Option (List ByteArray) := splitF l.length l
theorem spl_eq {k : Nat} {l : List UInt8} (h : l.length ≤ k) : splitF k l = spl l := splitF_stable _ _ _ h (Nat.le_refl _)
theorem spl_white {c : UInt8} {l : List UInt8} (h : isWhite c = true) : spl (c :: l) = spl l := by
 unfold spl; rw [List.length_cons, splitF, if_pos h]
theorem spl_sign {c : UInt8} {l : List UInt8} (h : isWhite c = false) (h2 : isSign c = true) : spl (c :: l) = (spl l).map (⟨#[c]⟩ :: ·) := by
 unfold spl; rw [List.length_cons, splitF, if_neg (by simp [h]), if_pos h2]
theorem spl_let {c : UInt8} {l : List UInt8} (h : isWhite c = false) (h2 : isSign c = false) (h3 : isLet c = true) : spl (c :: l) = (spl (l.dropWhile isLet)).map (⟨(c :: l.takeWhile isLet).toArray⟩ :: ·) := by
 unfold spl; rw [List.length_cons, splitF, if_neg (by simp [h]), if_neg (by simp [h2]), if_pos h3, spl_eq (List.dropWhile_suffix isLet).length_le]; rfl
theorem spl_num {c : UInt8} {l : List UInt8} (h : isWhite c = false) (h2 : isSign c = false) (h3 : isLet c = false) (h4 : (decide (c.toNat = 45) || isDig c) = true) : spl (c :: l) = (spl (l.dropWhile isDig)).map (⟨(c :: l.takeWhile isDig).toArray⟩ :: ·) := by
 unfold spl; rw [List.length_cons, splitF, if_neg (by simp [h]), if_neg (by simp [h2]), if_neg (by simp [h3]), if_pos h4, spl_eq (List.dropWhile_suffix isDig).length_le]; rfl
theorem spl_none {c : UInt8} {l : List UInt8} (h : isWhite c = false) (h2 : isSign c = false) (h3 : isLet c = false) (h4 : (decide (c.toNat = 45) || isDig c) = false) : spl (c :: l) = none := by
 unfold spl; rw [List.length_cons, splitF, if_neg (by simp [h]), if_neg (by simp [h2]), if_neg (by simp [h3]), if_neg (by simp [h4])]
theorem run_end {p : UInt8 → Bool} {c : UInt8} {l : List UInt8} {n : Nat} (hn : n ≤ l.length) (ha : ∀ x ∈ l.take n, p x = true) (he : ∀ h : n < l.length, p l[n] = false) : c :: l.takeWhile p = (c :: l).take (n + 1) ∧ l.dropWhile p = (c :: l).drop (n + 1) := by
 have e : l = l.take n ++ l.drop n := (List.take_append_drop n l).symm
 have h2 := take_word (p := p) (w := l.take n) (l := l.drop n) ha (fun x hx => by
  rw [List.head?_drop] at hx
  have hlt : n < l.length := by
   rcases Nat.lt_or_ge n l.length with h | h
   ·exact h
   ·rw [List.getElem?_eq_none h] at hx; cases hx
  rw [List.getElem?_eq_getElem hlt] at hx
  injection hx with hx
  rw [← hx]; exact he hlt)
 rw [← e] at h2
 rw [h2.1, h2.2]
 exact ⟨rfl, rfl⟩
theorem run_at {p : UInt8 → Bool} {c : UInt8} {l : List UInt8} {cur : ByteArray} (hl : bytes cur = c :: l) {m : Nat} (h1 : 1 ≤ m) (hm : m ≤ cur.size) (ha : ∀ i (h : i < cur.size), 1 ≤ i → i < m → p cur[i] = true) (he : ∀ h : m < cur.size, p cur[m] = false) :
  c :: l.takeWhile p = (bytes cur).take m ∧ l.dropWhile p = (bytes cur).drop m := by
 have hz : l.length + 1 = cur.size := by
  have e : (bytes cur).length = cur.size := rfl
  rw [hl] at e; simpa using e
 have hat : ∀ i (h : i < cur.size) (hi : i - 1 < l.length), 1 ≤ i → cur[i] = l[i - 1] := fun i h hi h1 => by
  have e2 : (bytes cur)[i]'h = cur[i] := rfl
  rw [← e2]
  simp only [hl]
  rw [List.getElem_cons, dif_neg (by omega)]
 have := run_end (p := p) (c := c) (l := l) (n := m - 1) (by omega) (fun x hx => by
  obtain ⟨j, hj, rfl⟩ := List.getElem_of_mem hx
  rw [List.getElem_take]
  rw [List.length_take] at hj
  have hj2 : j + 1 < cur.size := by omega
  have := ha (j + 1) hj2 (by omega) (by omega)
  rw [hat (j + 1) hj2 (by simp; omega) (by omega)] at this
  simpa using this) (fun h => by
  have hm2 : m < cur.size := by omega
  have := he hm2
  rw [hat m hm2 h h1] at this; exact this)
 rw [show m - 1 + 1 = m by omega, ← hl] at this
 exact this
def SplitEnd (w : World) (r : Option (List ByteArray)) (e : Ending) (w' : World) : Prop :=
 ∃ v, e = .returned (.tuple #[v, .bool r.isSome]) ∧ RSl 1 16 RStr (fun y => w.heap.size ≤ y) w' [v] (r.getD []) ∧ Below w.heap.size w w'
theorem split_any (s : ByteArray) (w : World) (hs : s.size ≤ 4000) : Calls Tryz.prog 35 #[.string s] w (SplitEnd w (spl (bytes s))) := by
 have Hs := Lib.hid hs
 obtain ⟨r, hr⟩ : ∃ r, r = spl (bytes s) := ⟨_, rfl⟩
 rw [← hr]
 have Hr := Lib.hid hr
 clear hr
 go_enter Tryz.func35, Tryz.ntmps35
 go_wp2_with fail
 go_loopw [0, 4] (fun c0 c4 wr => ∃ (cur : ByteArray) (acc : List ByteArray), c0 = .string cur ∧ cur.size + acc.length ≤ 4000 ∧ Hid (spl (bytes s) = (spl (bytes cur)).map (acc ++ ·)) ∧ Own w.heap.size 9 1 RStr NoT wr c4 acc ∧ Below w.heap.size w wr) (fun c0 _ wr => match c0 with | .string t => t.size | _ => 0)
 case atStart => exact ⟨s, [], rfl, by simpa using hs, (show _ = _ by simp), Own.nil_ _ _ _ _ _ _, Below.refl _ _⟩
 case round =>
  obtain ⟨cur, acc, rfl, hca, He, hO, hb⟩ := hrel
  by_cases h0 : 0 < cur.size
  ·--[RND
   obtain ⟨l, hl⟩ : ∃ l, bytes cur = cur[0] :: l := ⟨(bytes cur).tail, by
    have e : (bytes cur).length = cur.size := rfl
    cases hb : bytes cur with
    | nil => rw [hb] at e; simp at e; omega
    | cons c l =>
     have : cur[0] = c := by
      have e2 : (bytes cur)[0]'(by rw [e]; exact h0) = c := by simp only [hb]; rfl
      exact e2
     rw [this]; rfl⟩
   obtain ⟨c, hc⟩ : ∃ c, c = cur[0] := ⟨_, rfl⟩
   rw [← hc] at hl
   obtain ⟨kn, hkn⟩ : ∃ k, k = c.toNat := ⟨_, rfl⟩
   have hk256 : kn < 256 := by rw [hkn]; exact c.toNat_lt
   have hcw : isWhite c = decide (kn = 32 ∨ kn = 10 ∨ kn = 9 ∨ kn = 13) := by unfold isWhite; rw [hkn]
   have hcs : isSign c = decide (kn = 123 ∨ kn = 125 ∨ kn = 59) := by unfold isSign; rw [hkn]
   have hcl : isLet c = decide (97 ≤ kn ∧ kn ≤ 122) := by unfold isLet; rw [hkn]
   have hcd : (decide (c.toNat = 45) || isDig c) = decide (kn = 45 ∨ 48 ≤ kn ∧ kn ≤ 57) := by
    unfold isDig; rw [hkn]
    by_cases a : c.toNat = 45 <;> by_cases b : 48 ≤ c.toNat ∧ c.toNat ≤ 57 <;> simp [a, b]
   have Hl := Lib.hid hl
   have Hcw := Lib.hid hcw
   have Hcs := Lib.hid hcs
   have Hcl := Lib.hid hcl
   have Hcd := Lib.hid hcd
   have hne : (cur.toList == ([] : List UInt8)) = false := by
    rw [ByteArray.toList_eq]
    cases hd : cur.data.toList with
    | nil => exact absurd (show cur.size = 0 from congrArg List.length hd) (by omega)
    | cons c l => rfl
   clear hl hcw hcs hcl hcd
   go_upto_region 6 with fail
   rw [← hc, ← hkn]
   clear hc hkn hne
   obtain ⟨W, hW⟩ : ∃ V, V = wr := ⟨_, rfl⟩
   subst hW
   go_upto_region 6 with fail
   go_cut [11] from 12 to 25 (fun c wx => c = .bool (decide (kn = 32 ∨ kn = 10 ∨ kn = 9 ∨ kn = 13)) ∧ wx = W)
   case first =>
    by_cases a0 : kn = 32
    ·have e0 : ((kn : Int) == 32) = true := by simp; omega
     have Ed : Hid (decide (kn = 32 ∨ kn = 10 ∨ kn = 9 ∨ kn = 13) = true) := by show _ = _; simp; omega
     clear a0
     go_wp2_with fail
     go_meet
     case rel => exact ⟨by rw [Ed.out], rfl⟩
    ·by_cases a1 : kn = 10
     ·have e0 : ((kn : Int) == 32) = false := by simp; omega
      have e1 : ((kn : Int) == 10) = true := by simp; omega
      have Ed : Hid (decide (kn = 32 ∨ kn = 10 ∨ kn = 9 ∨ kn = 13) = true) := by show _ = _; simp; omega
      clear a0 a1
      go_wp2_with fail
      go_meet
      case rel => exact ⟨by rw [Ed.out], rfl⟩
     ·by_cases a2 : kn = 9
      ·have e0 : ((kn : Int) == 32) = false := by simp; omega
       have e1 : ((kn : Int) == 10) = false := by simp; omega
       have e2 : ((kn : Int) == 9) = true := by simp; omega
       have Ed : Hid (decide (kn = 32 ∨ kn = 10 ∨ kn = 9 ∨ kn = 13) = true) := by show _ = _; simp; omega
       clear a0 a1 a2
       go_wp2_with fail
       go_meet
       case rel => exact ⟨by rw [Ed.out], rfl⟩
      ·by_cases a3 : kn = 13
       ·have e0 : ((kn : Int) == 32) = false := by simp; omega
        have e1 : ((kn : Int) == 10) = false := by simp; omega
        have e2 : ((kn : Int) == 9) = false := by simp; omega
        have e3 : ((kn : Int) == 13) = true := by simp; omega
        have Ed : Hid (decide (kn = 32 ∨ kn = 10 ∨ kn = 9 ∨ kn = 13) = true) := by show _ = _; simp; omega
        clear a0 a1 a2 a3
        go_wp2_with fail
        go_meet
        case rel => exact ⟨by rw [Ed.out], rfl⟩
       ·have e0 : ((kn : Int) == 32) = false := by simp; omega
        have e1 : ((kn : Int) == 10) = false := by simp; omega
        have e2 : ((kn : Int) == 9) = false := by simp; omega
        have e3 : ((kn : Int) == 13) = false := by simp; omega
        have Ed : Hid (decide (kn = 32 ∨ kn = 10 ∨ kn = 9 ∨ kn = 13) = false) := by show _ = _; simp; omega
        clear a0 a1 a2 a3
        go_wp2_with fail
        go_meet
        case rel => exact ⟨by rw [Ed.out], rfl⟩
   case rest =>
    obtain ⟨rfl, rfl⟩ := hcut
    obtain ⟨W, hW⟩ : ∃ V, V = wc := ⟨_, rfl⟩
    subst hW
    by_cases hw : kn = 32 ∨ kn = 10 ∨ kn = 9 ∨ kn = 13
    ·have hwt : isWhite c = true := by rw [Hcw.out]; exact decide_eq_true hw
     rw [decide_eq_true hw]
     clear hw
     obtain ⟨rs, hrs⟩ : ∃ x, cur.extract 1 cur.size = x := ⟨_, rfl⟩
     have b1 : bytes rs = l := by rw [← hrs, bytes_from, Hl.out]; rfl
     have hstep : Hid (spl (bytes s) = (spl (bytes rs)).map (acc ++ ·)) := by show _ = _; rw [He.out, Hl.out, spl_white hwt, b1]
     have hrz : rs.size < cur.size := by
      have e1 : (bytes rs).length = rs.size := rfl
      have e2 : (bytes cur).length = cur.size := rfl
      rw [b1] at e1
      rw [Hl.out, List.length_cons] at e2
      omega
     have Hrz := Lib.hid hrz
     have Hca := Lib.hid hca
     clear b1 hrz hca hwt He
     go_wp2_with fail
     go_roundw
     case rel => exact ⟨rs, acc, rfl, by have := Hca.out; have := Hrz.out; omega, hstep, hO, hb⟩
     case measure => exact Hrz.out
    ·have hwf : isWhite c = false := by rw [Hcw.out]; exact decide_eq_false hw
     rw [decide_eq_false hw]
     clear hw
     go_upto_region 8 with fail
     go_cut [28] from 29 to 38 (fun c wx => c = .bool (decide (kn = 123 ∨ kn = 125 ∨ kn = 59)) ∧ wx = W)
     case first =>
      by_cases a0 : kn = 123
      ·have e0 : ((kn : Int) == 123) = true := by simp; omega
       have Ed : Hid (decide (kn = 123 ∨ kn = 125 ∨ kn = 59) = true) := by show _ = _; simp; omega
       clear a0
       go_wp2_with fail
       go_meet
       case rel => exact ⟨by rw [Ed.out], rfl⟩
      ·by_cases a1 : kn = 125
       ·have e0 : ((kn : Int) == 123) = false := by simp; omega
        have e1 : ((kn : Int) == 125) = true := by simp; omega
        have Ed : Hid (decide (kn = 123 ∨ kn = 125 ∨ kn = 59) = true) := by show _ = _; simp; omega
        clear a0 a1
        go_wp2_with fail
        go_meet
        case rel => exact ⟨by rw [Ed.out], rfl⟩
       ·by_cases a2 : kn = 59
        ·have e0 : ((kn : Int) == 123) = false := by simp; omega
         have e1 : ((kn : Int) == 125) = false := by simp; omega
         have e2 : ((kn : Int) == 59) = true := by simp; omega
         have Ed : Hid (decide (kn = 123 ∨ kn = 125 ∨ kn = 59) = true) := by show _ = _; simp; omega
         clear a0 a1 a2
         go_wp2_with fail
         go_meet
         case rel => exact ⟨by rw [Ed.out], rfl⟩
        ·have e0 : ((kn : Int) == 123) = false := by simp; omega
         have e1 : ((kn : Int) == 125) = false := by simp; omega
         have e2 : ((kn : Int) == 59) = false := by simp; omega
         have Ed : Hid (decide (kn = 123 ∨ kn = 125 ∨ kn = 59) = false) := by show _ = _; simp; omega
         clear a0 a1 a2
         go_wp2_with fail
         go_meet
         case rel => exact ⟨by rw [Ed.out], rfl⟩
     case rest =>
      obtain ⟨rfl, rfl⟩ := hcut
      obtain ⟨W, hW⟩ : ∃ V, V = wc := ⟨_, rfl⟩
      subst hW
      by_cases hw : kn = 123 ∨ kn = 125 ∨ kn = 59
      ·have hst : isSign c = true := by rw [Hcs.out]; exact decide_eq_true hw
       rw [decide_eq_true hw]
       clear hw
       have hsp : spl (bytes cur) = (spl ((bytes cur).drop 1)).map (⟨((bytes cur).take 1).toArray⟩ :: ·) := by rw [Hl.out, spl_sign hwf hst]; rfl
       have hsz : (1 : Int) ≤ cur.size := by omega
       clear hwf hst
       obtain ⟨wd, hwd⟩ : ∃ x, cur.extract 0 1 = x := ⟨_, rfl⟩
       obtain ⟨rs, hrs⟩ : ∃ x, cur.extract 1 cur.size = x := ⟨_, rfl⟩
       have b1 : bytes rs = (bytes cur).drop 1 := by rw [← hrs, bytes_from]
       have b2 : wd = ⟨((bytes cur).take 1).toArray⟩ := ba_of (by rw [← hwd, bytes_to])
       have hstep : Hid (spl (bytes s) = (spl (bytes rs)).map ((acc ++ [wd]) ++ ·)) := by
        show _ = _
        rw [He.out, hsp, b1, ← b2]
        cases spl ((bytes cur).drop 1) with
        | none => rfl
        | some l => simp
       have hrz : rs.size < cur.size := by
        have e1 : (bytes rs).length = rs.size := rfl
        have e2 : (bytes cur).length = cur.size := rfl
        rw [b1, List.length_drop] at e1
        omega
       have Hrz := Lib.hid hrz
       have Hca := Lib.hid hca
       have hOa := hO.alloc RStr.fair (.cells #[.string wd] 9)
       have hba := hb.alloc hb.size (.cells #[.string wd] 9)
       have hbs := hb.size
       have hbx : Box (W.alloc (.cells #[.string wd] 9)) W.heap.size 9 [.string wd] := Box.new _ _ _
       clear b1 b2 hrz hca hO hb He
       go_wp2_with (at_builtin; go_must (refine wl_append _ rfl (.tmp 93) (.tmp 97) rfl sl_words RStr.fair rfl rfl hOa (Src.one (es := [.string wd]) (y := wd) rfl (Ones.of_all rfl) rfl hbx.lies) (NoT.lt _) ?_ ?_ ?_))
       ·have := Hca.out; try simp
        go_light; omega
       ·try simp
        go_light; omega
       intro v5 w5 ho5 hg5 hv5
       have hb5 := below_grown hba hg5 (by (try simp); go_light; omega) (fun g' h => (hOa.lt h).1)
       clear hOa hba hg5 hv5
       go_wp2_with fail
       go_roundw
       case rel => exact ⟨rs, acc ++ [wd], rfl, by have := Hca.out; have := Hrz.out; (try simp); omega, hstep, ho5, hb5⟩
       case measure => exact Hrz.out
      ·have hsf : isSign c = false := by rw [Hcs.out]; exact decide_eq_false hw
       rw [decide_eq_false hw]
       clear hw
       go_upto_region 9 with fail
       go_cut [39] from 40 to 45 (fun c wx => c = .bool (decide (97 ≤ kn ∧ kn ≤ 122)) ∧ wx = W)
       case first =>
        by_cases a0 : 97 ≤ kn
        ·by_cases a1 : kn ≤ 122
         ·have e0 : decide ((kn : Int) ≥ 97) = true := by simp; omega
          have e1 : decide ((kn : Int) ≤ 122) = true := by simp; omega
          have e2 : decide ((97 : Int) ≤ kn) = true := by simp; omega
          have Ed : Hid (decide (97 ≤ kn ∧ kn ≤ 122) = true) := by show _ = _; simp; omega
          clear a0 a1
          go_wp2_with fail
          go_meet
          case rel => exact ⟨by rw [Ed.out], rfl⟩
         ·have e0 : decide ((kn : Int) ≥ 97) = true := by simp; omega
          have e1 : decide ((kn : Int) ≤ 122) = false := by simp; omega
          have e2 : decide ((97 : Int) ≤ kn) = true := by simp; omega
          have Ed : Hid (decide (97 ≤ kn ∧ kn ≤ 122) = false) := by show _ = _; simp; omega
          clear a0 a1
          go_wp2_with fail
          go_meet
          case rel => exact ⟨by rw [Ed.out], rfl⟩
        ·have e0 : decide ((kn : Int) ≥ 97) = false := by simp; omega
         have e2 : decide ((97 : Int) ≤ kn) = false := by simp; omega
         have Ed : Hid (decide (97 ≤ kn ∧ kn ≤ 122) = false) := by show _ = _; simp; omega
         clear a0
         go_wp2_with fail
         go_meet
         case rel => exact ⟨by rw [Ed.out], rfl⟩
       case rest =>
        obtain ⟨rfl, rfl⟩ := hcut
        obtain ⟨W, hW⟩ : ∃ V, V = wc := ⟨_, rfl⟩
        subst hW
        by_cases hw : 97 ≤ kn ∧ kn ≤ 122
        ·--[LET
         have hlt : isLet c = true := by rw [Hcl.out]; exact decide_eq_true hw
         rw [decide_eq_true hw]
         clear hw
         go_wp2_with fail
         go_loopw [6] (fun c6 wi => ∃ m : Nat, c6 = .int .i64 m ∧ 1 ≤ m ∧ m ≤ cur.size ∧ Hid (∀ i (h : i < cur.size), 1 ≤ i → i < m → isLet cur[i] = true) ∧ wi = W) (fun c6 _ => cur.size - (intOf c6).toNat)
         case atStart => exact ⟨1, rfl, Nat.le_refl _, by omega, (show ∀ i (h : i < cur.size), 1 ≤ i → i < 1 → isLet cur[i] = true from fun i _ h1 h2 => absurd h1 (by omega)), rfl⟩
         case round =>
          obtain ⟨m, rfl, hm1, hmz, Hrun, rfl⟩ := hrel
          obtain ⟨W, hW⟩ : ∃ V, V = wr := ⟨_, rfl⟩
          subst hW
          have hmz' : (m : Int) ≤ cur.size := by omega
          by_cases hm : m < cur.size
          ·by_cases hcm : 97 ≤ cur[m].toNat ∧ cur[m].toNat ≤ 122
           ·obtain ⟨hc1, hc2⟩ := hcm
            have hp : isLet cur[m] = true := by unfold isLet; simp [hc1, hc2]
            have Hr2 : Hid (∀ i (h : i < cur.size), 1 ≤ i → i < m + 1 → isLet cur[i] = true) := fun i h h1 h2 => by
             by_cases e : i < m
             ·exact Hrun.out i h h1 e
             ·obtain rfl : i = m := by omega
              exact hp
            clear hp
            go_wp2_with fail
            go_roundw
            case rel => exact ⟨m + 1, by simp, by omega, hm, Hr2, by trivial⟩
            case measure => go_light; simp [intOf]; omega
           ·have hp : isLet cur[m] = false := by unfold isLet; exact decide_eq_false hcm
            obtain ⟨q1, q2⟩ := run_at (p := isLet) Hl.out hm1 hmz Hrun.out (fun _ => hp)
            have hsp : spl (bytes cur) = (spl ((bytes cur).drop m)).map (⟨((bytes cur).take m).toArray⟩ :: ·) := by rw [← q1, ← q2, Hl.out]; exact spl_let hwf hsf hlt
            clear q1 q2 hp Hrun
            by_cases hc1 : cur[m].toNat < 97
            ·clear hcm
             obtain ⟨wd, hwd⟩ : ∃ x, cur.extract 0 m = x := ⟨_, rfl⟩
             obtain ⟨rs, hrs⟩ : ∃ x, cur.extract m cur.size = x := ⟨_, rfl⟩
             have b1 : bytes rs = (bytes cur).drop m := by rw [← hrs, bytes_from]
             have b2 : wd = ⟨((bytes cur).take m).toArray⟩ := ba_of (by rw [← hwd, bytes_to])
             have hstep : Hid (spl (bytes s) = (spl (bytes rs)).map ((acc ++ [wd]) ++ ·)) := by
              show _ = _
              rw [He.out, hsp, b1, ← b2]
              cases spl ((bytes cur).drop m) with
              | none => rfl
              | some l => simp
             have hrz : rs.size < cur.size := by
              have e1 : (bytes rs).length = rs.size := rfl
              have e2 : (bytes cur).length = cur.size := rfl
              rw [b1, List.length_drop] at e1
              omega
             have Hrz := Lib.hid hrz
             have Hca := Lib.hid hca
             have hOa := hO.alloc RStr.fair (.cells #[.string wd] 9)
             have hba := hb.alloc hb.size (.cells #[.string wd] 9)
             have hbs := hb.size
             have hbx : Box (W.alloc (.cells #[.string wd] 9)) W.heap.size 9 [.string wd] := Box.new _ _ _
             clear b1 b2 hrz hca hO hb He
             go_wp2_with (at_builtin; go_must (refine wl_append _ rfl (.tmp 93) (.tmp 97) rfl sl_words RStr.fair rfl rfl hOa (Src.one (es := [.string wd]) (y := wd) rfl (Ones.of_all rfl) rfl hbx.lies) (NoT.lt _) ?_ ?_ ?_))
             ·have := Hca.out; try simp
              go_light; omega
             ·try simp
              go_light; omega
             intro v5 w5 ho5 hg5 hv5
             have hb5 := below_grown hba hg5 (by (try simp); go_light; omega) (fun g' h => (hOa.lt h).1)
             clear hOa hba hg5 hv5
             go_wp2_with fail
             go_roundw
             case rel => exact ⟨rs, acc ++ [wd], rfl, by have := Hca.out; have := Hrz.out; (try simp); omega, hstep, ho5, hb5⟩
             case measure => exact Hrz.out
            ·have hc2 : 122 < cur[m].toNat := by omega
             have hc3 : 97 ≤ cur[m].toNat := by omega
             clear hcm hc1
             obtain ⟨wd, hwd⟩ : ∃ x, cur.extract 0 m = x := ⟨_, rfl⟩
             obtain ⟨rs, hrs⟩ : ∃ x, cur.extract m cur.size = x := ⟨_, rfl⟩
             have b1 : bytes rs = (bytes cur).drop m := by rw [← hrs, bytes_from]
             have b2 : wd = ⟨((bytes cur).take m).toArray⟩ := ba_of (by rw [← hwd, bytes_to])
             have hstep : Hid (spl (bytes s) = (spl (bytes rs)).map ((acc ++ [wd]) ++ ·)) := by
              show _ = _
              rw [He.out, hsp, b1, ← b2]
              cases spl ((bytes cur).drop m) with
              | none => rfl
              | some l => simp
             have hrz : rs.size < cur.size := by
              have e1 : (bytes rs).length = rs.size := rfl
              have e2 : (bytes cur).length = cur.size := rfl
              rw [b1, List.length_drop] at e1
              omega
             have Hrz := Lib.hid hrz
             have Hca := Lib.hid hca
             have hOa := hO.alloc RStr.fair (.cells #[.string wd] 9)
             have hba := hb.alloc hb.size (.cells #[.string wd] 9)
             have hbs := hb.size
             have hbx : Box (W.alloc (.cells #[.string wd] 9)) W.heap.size 9 [.string wd] := Box.new _ _ _
             clear b1 b2 hrz hca hO hb He
             go_wp2_with (at_builtin; go_must (refine wl_append _ rfl (.tmp 93) (.tmp 97) rfl sl_words RStr.fair rfl rfl hOa (Src.one (es := [.string wd]) (y := wd) rfl (Ones.of_all rfl) rfl hbx.lies) (NoT.lt _) ?_ ?_ ?_))
             ·have := Hca.out; try simp
              go_light; omega
             ·try simp
              go_light; omega
             intro v5 w5 ho5 hg5 hv5
             have hb5 := below_grown hba hg5 (by (try simp); go_light; omega) (fun g' h => (hOa.lt h).1)
             clear hOa hba hg5 hv5
             go_wp2_with fail
             go_roundw
             case rel => exact ⟨rs, acc ++ [wd], rfl, by have := Hca.out; have := Hrz.out; (try simp); omega, hstep, ho5, hb5⟩
             case measure => exact Hrz.out
          ·obtain ⟨q1, q2⟩ := run_at (p := isLet) Hl.out hm1 hmz Hrun.out (fun h => absurd h hm)
           have hsp : spl (bytes cur) = (spl ((bytes cur).drop m)).map (⟨((bytes cur).take m).toArray⟩ :: ·) := by rw [← q1, ← q2, Hl.out]; exact spl_let hwf hsf hlt
           clear q1 q2 Hrun
           obtain ⟨wd, hwd⟩ : ∃ x, cur.extract 0 m = x := ⟨_, rfl⟩
           obtain ⟨rs, hrs⟩ : ∃ x, cur.extract m cur.size = x := ⟨_, rfl⟩
           have b1 : bytes rs = (bytes cur).drop m := by rw [← hrs, bytes_from]
           have b2 : wd = ⟨((bytes cur).take m).toArray⟩ := ba_of (by rw [← hwd, bytes_to])
           have hstep : Hid (spl (bytes s) = (spl (bytes rs)).map ((acc ++ [wd]) ++ ·)) := by
            show _ = _
            rw [He.out, hsp, b1, ← b2]
            cases spl ((bytes cur).drop m) with
            | none => rfl
            | some l => simp
           have hrz : rs.size < cur.size := by
            have e1 : (bytes rs).length = rs.size := rfl
            have e2 : (bytes cur).length = cur.size := rfl
            rw [b1, List.length_drop] at e1
            omega
           have Hrz := Lib.hid hrz
           have Hca := Lib.hid hca
           have hOa := hO.alloc RStr.fair (.cells #[.string wd] 9)
           have hba := hb.alloc hb.size (.cells #[.string wd] 9)
           have hbs := hb.size
           have hbx : Box (W.alloc (.cells #[.string wd] 9)) W.heap.size 9 [.string wd] := Box.new _ _ _
           clear b1 b2 hrz hca hO hb He
           go_wp2_with (at_builtin; go_must (refine wl_append _ rfl (.tmp 93) (.tmp 97) rfl sl_words RStr.fair rfl rfl hOa (Src.one (es := [.string wd]) (y := wd) rfl (Ones.of_all rfl) rfl hbx.lies) (NoT.lt _) ?_ ?_ ?_))
           ·have := Hca.out; try simp
            go_light; omega
           ·try simp
            go_light; omega
           intro v5 w5 ho5 hg5 hv5
           have hb5 := below_grown hba hg5 (by (try simp); go_light; omega) (fun g' h => (hOa.lt h).1)
           clear hOa hba hg5 hv5
           go_wp2_with fail
           go_roundw
           case rel => exact ⟨rs, acc ++ [wd], rfl, by have := Hca.out; have := Hrz.out; (try simp); omega, hstep, ho5, hb5⟩
           case measure => exact Hrz.out
        ·have hlf : isLet c = false := by rw [Hcl.out]; exact decide_eq_false hw
         rw [decide_eq_false hw]
         clear hw
         go_upto_region 12 with fail
         go_cut [64] from 65 to 74 (fun c wx => c = .bool (decide (kn = 45 ∨ 48 ≤ kn ∧ kn ≤ 57)) ∧ wx = W)
         case first =>
          by_cases a0 : kn = 45
          ·have e0 : ((kn : Int) == 45) = true := by simp; omega
           have Ed : Hid (decide (kn = 45 ∨ 48 ≤ kn ∧ kn ≤ 57) = true) := by show _ = _; simp; omega
           clear a0
           go_wp2_with fail
           go_meet
           case rel => exact ⟨by rw [Ed.out], rfl⟩
          ·by_cases a1 : 48 ≤ kn
           ·by_cases a2 : kn ≤ 57
            ·have e0 : ((kn : Int) == 45) = false := by simp; omega
             have e1 : decide ((kn : Int) ≥ 48) = true := by simp; omega
             have e3 : decide ((48 : Int) ≤ kn) = true := by simp; omega
             have e2 : decide ((kn : Int) ≤ 57) = true := by simp; omega
             have Ed : Hid (decide (kn = 45 ∨ 48 ≤ kn ∧ kn ≤ 57) = true) := by show _ = _; simp; omega
             clear a0 a1 a2
             go_wp2_with fail
             go_meet
             case rel => exact ⟨by rw [Ed.out], rfl⟩
            ·have e0 : ((kn : Int) == 45) = false := by simp; omega
             have e1 : decide ((kn : Int) ≥ 48) = true := by simp; omega
             have e3 : decide ((48 : Int) ≤ kn) = true := by simp; omega
             have e2 : decide ((kn : Int) ≤ 57) = false := by simp; omega
             have Ed : Hid (decide (kn = 45 ∨ 48 ≤ kn ∧ kn ≤ 57) = false) := by show _ = _; simp; omega
             clear a0 a1 a2
             go_wp2_with fail
             go_meet
             case rel => exact ⟨by rw [Ed.out], rfl⟩
           ·have e0 : ((kn : Int) == 45) = false := by simp; omega
            have e1 : decide ((kn : Int) ≥ 48) = false := by simp; omega
            have e3 : decide ((48 : Int) ≤ kn) = false := by simp; omega
            have Ed : Hid (decide (kn = 45 ∨ 48 ≤ kn ∧ kn ≤ 57) = false) := by show _ = _; simp; omega
            clear a0 a1
            go_wp2_with fail
            go_meet
            case rel => exact ⟨by rw [Ed.out], rfl⟩
         case rest =>
          obtain ⟨rfl, rfl⟩ := hcut
          obtain ⟨W, hW⟩ : ∃ V, V = wc := ⟨_, rfl⟩
          subst hW
          by_cases hw : kn = 45 ∨ 48 ≤ kn ∧ kn ≤ 57
          ·have hnt := Hcd.out.trans (decide_eq_true hw)
           rw [decide_eq_true hw]
           clear hw
           go_wp2_with fail
           go_loopw [6] (fun c6 wi => ∃ m : Nat, c6 = .int .i64 m ∧ 1 ≤ m ∧ m ≤ cur.size ∧ Hid (∀ i (h : i < cur.size), 1 ≤ i → i < m → isDig cur[i] = true) ∧ wi = W) (fun c6 _ => cur.size - (intOf c6).toNat)
           case atStart => exact ⟨1, rfl, Nat.le_refl _, by omega, (show ∀ i (h : i < cur.size), 1 ≤ i → i < 1 → isDig cur[i] = true from fun i _ h1 h2 => absurd h1 (by omega)), rfl⟩
           case round =>
            obtain ⟨m, rfl, hm1, hmz, Hrun, rfl⟩ := hrel
            obtain ⟨W, hW⟩ : ∃ V, V = wr := ⟨_, rfl⟩
            subst hW
            have hmz' : (m : Int) ≤ cur.size := by omega
            by_cases hm : m < cur.size
            ·by_cases hcm : 48 ≤ cur[m].toNat ∧ cur[m].toNat ≤ 57
             ·obtain ⟨hc1, hc2⟩ := hcm
              have hp : isDig cur[m] = true := by unfold isDig; simp [hc1, hc2]
              have Hr2 : Hid (∀ i (h : i < cur.size), 1 ≤ i → i < m + 1 → isDig cur[i] = true) := fun i h h1 h2 => by
               by_cases e : i < m
               ·exact Hrun.out i h h1 e
               ·obtain rfl : i = m := by omega
                exact hp
              clear hp
              go_wp2_with fail
              go_roundw
              case rel => exact ⟨m + 1, by simp, by omega, hm, Hr2, by trivial⟩
              case measure => go_light; simp [intOf]; omega
             ·have hp : isDig cur[m] = false := by unfold isDig; exact decide_eq_false hcm
              obtain ⟨q1, q2⟩ := run_at (p := isDig) Hl.out hm1 hmz Hrun.out (fun _ => hp)
              have hsp : spl (bytes cur) = (spl ((bytes cur).drop m)).map (⟨((bytes cur).take m).toArray⟩ :: ·) := by rw [← q1, ← q2, Hl.out]; exact spl_num hwf hsf hlf hnt
              clear q1 q2 hp Hrun
              by_cases hc1 : cur[m].toNat < 48
              ·clear hcm
               obtain ⟨wd, hwd⟩ : ∃ x, cur.extract 0 m = x := ⟨_, rfl⟩
               obtain ⟨rs, hrs⟩ : ∃ x, cur.extract m cur.size = x := ⟨_, rfl⟩
               have b1 : bytes rs = (bytes cur).drop m := by rw [← hrs, bytes_from]
               have b2 : wd = ⟨((bytes cur).take m).toArray⟩ := ba_of (by rw [← hwd, bytes_to])
               have hstep : Hid (spl (bytes s) = (spl (bytes rs)).map ((acc ++ [wd]) ++ ·)) := by
                show _ = _
                rw [He.out, hsp, b1, ← b2]
                cases spl ((bytes cur).drop m) with
                | none => rfl
                | some l => simp
               have hrz : rs.size < cur.size := by
                have e1 : (bytes rs).length = rs.size := rfl
                have e2 : (bytes cur).length = cur.size := rfl
                rw [b1, List.length_drop] at e1
                omega
               have Hrz := Lib.hid hrz
               have Hca := Lib.hid hca
               have hOa := hO.alloc RStr.fair (.cells #[.string wd] 9)
               have hba := hb.alloc hb.size (.cells #[.string wd] 9)
               have hbs := hb.size
               have hbx : Box (W.alloc (.cells #[.string wd] 9)) W.heap.size 9 [.string wd] := Box.new _ _ _
               clear b1 b2 hrz hca hO hb He
               go_wp2_with (at_builtin; go_must (refine wl_append _ rfl (.tmp 93) (.tmp 97) rfl sl_words RStr.fair rfl rfl hOa (Src.one (es := [.string wd]) (y := wd) rfl (Ones.of_all rfl) rfl hbx.lies) (NoT.lt _) ?_ ?_ ?_))
               ·have := Hca.out; try simp
                go_light; omega
               ·try simp
                go_light; omega
               intro v5 w5 ho5 hg5 hv5
               have hb5 := below_grown hba hg5 (by (try simp); go_light; omega) (fun g' h => (hOa.lt h).1)
               clear hOa hba hg5 hv5
               go_wp2_with fail
               go_roundw
               case rel => exact ⟨rs, acc ++ [wd], rfl, by have := Hca.out; have := Hrz.out; (try simp); omega, hstep, ho5, hb5⟩
               case measure => exact Hrz.out
              ·have hc2 : 57 < cur[m].toNat := by omega
               have hc3 : 48 ≤ cur[m].toNat := by omega
               clear hcm hc1
               obtain ⟨wd, hwd⟩ : ∃ x, cur.extract 0 m = x := ⟨_, rfl⟩
               obtain ⟨rs, hrs⟩ : ∃ x, cur.extract m cur.size = x := ⟨_, rfl⟩
               have b1 : bytes rs = (bytes cur).drop m := by rw [← hrs, bytes_from]
               have b2 : wd = ⟨((bytes cur).take m).toArray⟩ := ba_of (by rw [← hwd, bytes_to])
               have hstep : Hid (spl (bytes s) = (spl (bytes rs)).map ((acc ++ [wd]) ++ ·)) := by
                show _ = _
                rw [He.out, hsp, b1, ← b2]
                cases spl ((bytes cur).drop m) with
                | none => rfl
                | some l => simp
               have hrz : rs.size < cur.size := by
                have e1 : (bytes rs).length = rs.size := rfl
                have e2 : (bytes cur).length = cur.size := rfl
                rw [b1, List.length_drop] at e1
                omega
               have Hrz := Lib.hid hrz
               have Hca := Lib.hid hca
               have hOa := hO.alloc RStr.fair (.cells #[.string wd] 9)
               have hba := hb.alloc hb.size (.cells #[.string wd] 9)
               have hbs := hb.size
               have hbx : Box (W.alloc (.cells #[.string wd] 9)) W.heap.size 9 [.string wd] := Box.new _ _ _
               clear b1 b2 hrz hca hO hb He
               go_wp2_with (at_builtin; go_must (refine wl_append _ rfl (.tmp 93) (.tmp 97) rfl sl_words RStr.fair rfl rfl hOa (Src.one (es := [.string wd]) (y := wd) rfl (Ones.of_all rfl) rfl hbx.lies) (NoT.lt _) ?_ ?_ ?_))
               ·have := Hca.out; try simp
                go_light; omega
               ·try simp
                go_light; omega
               intro v5 w5 ho5 hg5 hv5
               have hb5 := below_grown hba hg5 (by (try simp); go_light; omega) (fun g' h => (hOa.lt h).1)
               clear hOa hba hg5 hv5
               go_wp2_with fail
               go_roundw
               case rel => exact ⟨rs, acc ++ [wd], rfl, by have := Hca.out; have := Hrz.out; (try simp); omega, hstep, ho5, hb5⟩
               case measure => exact Hrz.out
            ·obtain ⟨q1, q2⟩ := run_at (p := isDig) Hl.out hm1 hmz Hrun.out (fun h => absurd h hm)
             have hsp : spl (bytes cur) = (spl ((bytes cur).drop m)).map (⟨((bytes cur).take m).toArray⟩ :: ·) := by rw [← q1, ← q2, Hl.out]; exact spl_num hwf hsf hlf hnt
             clear q1 q2 Hrun
             obtain ⟨wd, hwd⟩ : ∃ x, cur.extract 0 m = x := ⟨_, rfl⟩
             obtain ⟨rs, hrs⟩ : ∃ x, cur.extract m cur.size = x := ⟨_, rfl⟩
             have b1 : bytes rs = (bytes cur).drop m := by rw [← hrs, bytes_from]
             have b2 : wd = ⟨((bytes cur).take m).toArray⟩ := ba_of (by rw [← hwd, bytes_to])
             have hstep : Hid (spl (bytes s) = (spl (bytes rs)).map ((acc ++ [wd]) ++ ·)) := by
              show _ = _
              rw [He.out, hsp, b1, ← b2]
              cases spl ((bytes cur).drop m) with
              | none => rfl
              | some l => simp
             have hrz : rs.size < cur.size := by
              have e1 : (bytes rs).length = rs.size := rfl
              have e2 : (bytes cur).length = cur.size := rfl
              rw [b1, List.length_drop] at e1
              omega
             have Hrz := Lib.hid hrz
             have Hca := Lib.hid hca
             have hOa := hO.alloc RStr.fair (.cells #[.string wd] 9)
             have hba := hb.alloc hb.size (.cells #[.string wd] 9)
             have hbs := hb.size
             have hbx : Box (W.alloc (.cells #[.string wd] 9)) W.heap.size 9 [.string wd] := Box.new _ _ _
             clear b1 b2 hrz hca hO hb He
             go_wp2_with (at_builtin; go_must (refine wl_append _ rfl (.tmp 93) (.tmp 97) rfl sl_words RStr.fair rfl rfl hOa (Src.one (es := [.string wd]) (y := wd) rfl (Ones.of_all rfl) rfl hbx.lies) (NoT.lt _) ?_ ?_ ?_))
             ·have := Hca.out; try simp
              go_light; omega
             ·try simp
              go_light; omega
             intro v5 w5 ho5 hg5 hv5
             have hb5 := below_grown hba hg5 (by (try simp); go_light; omega) (fun g' h => (hOa.lt h).1)
             clear hOa hba hg5 hv5
             go_wp2_with fail
             go_roundw
             case rel => exact ⟨rs, acc ++ [wd], rfl, by have := Hca.out; have := Hrz.out; (try simp); omega, hstep, ho5, hb5⟩
             case measure => exact Hrz.out
          ·have hnf := Hcd.out.trans (decide_eq_false hw)
           rw [decide_eq_false hw]
           clear hw
           have Hr2 : Hid (r = none) := by show _ = _; rw [Hr.out, He.out, Hl.out, spl_none hwf hsf hlf hnf]; rfl
           clear hwf hsf hlf hnf
           go_wp2_with fail
           go_ret2
           exact ⟨_, by rw [Hr2.out]; rfl, by rw [Hr2.out]; exact RSl.nil_, hb⟩
  ·have hx0 : cur = ⟨#[]⟩ := by
    have hl0 : (bytes cur).length = 0 := by show cur.size = 0; omega
    exact ba_of (List.eq_nil_of_length_eq_zero hl0)
   subst hx0
   have Hr2 : Hid (r = some acc) := by
    show _ = _
    rw [Hr.out, He.out]
    show (spl []).map _ = _
    rw [show spl [] = some [] from rfl]
    simp
   have HO := Lib.hid (hO.read (by_ := 16) (S := fun y => w.heap.size ≤ y) RStr.fair (fun _ h => h.elim) (fun k hk => (hO.lt hk).1) (by omega))
   clear h0
   go_wp2_with fail
   go_ret2
   exact ⟨_, by rw [Hr2.out]; rfl, by rw [Hr2.out]; exact HO.out, hb⟩
end Go.Proofs.YtfobdbhmfohfnaaGreatDoor
