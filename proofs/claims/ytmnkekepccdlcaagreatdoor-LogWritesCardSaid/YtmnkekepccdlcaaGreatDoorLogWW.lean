/-
  The walk of LogWrites.
  Conditions: a text of at most 100000 bytes.
-/
import Derived.Test.YtmnkekepccdlcaaGreatDoorRow
import Derived.Test.YtmnkekepccdlcaaGreatDoorOwn
import Derived.Test.YtmnkekepccdlcaaGreatDoorShelf
import Derived.Lib.SplitLaws
import Derived.Lib.Join
import Derived.Test.YtmnkekepccdlcaaGreatDoorLogO
import Derived.Deep.DeepCutAuto
import Derived.Test.YtmnkekepccdlcaaGreatDoorLogT
import Derived.Test.YtmnkekepccdlcaaGreatDoorLaw
import Derived.ChangeSlices
import Derived.Test.YtmnkekepccdlcaaGreatDoorLogL
import Derived.Test.YtmnkekepccdlcaaGreatDoorLogSS
import Derived.Test.YtmnkekepccdlcaaGreatDoorCut
import Derived.Test.YtmnkekepccdlcaaGreatDoorLogQA
import Derived.Test.YtmnkekepccdlcaaGreatDoorLogQ
namespace Go.Proofs.YtmnkekepccdlcaaGreatDoor
set_option linter.unusedVariables false
set_option linter.unusedSimpArgs false
open Go.RowKit

theorem ext_drop (s : ByteArray) (k : Nat) : (s.extract k s.size).data.toList = s.data.toList.drop k := by
  have hl : (s.data.toList.drop k).length = s.size - k := by rw [List.length_drop]; rfl
  rw [ByteArray.data_extract, Array.toList_extract, List.extract_eq_take_drop]
  exact List.take_of_length_le (by rw [hl]; exact Nat.le_refl _)

theorem infoStrR : (Tryz.prog.info? 9).map (fun i => (i.zero, i.size, i.bytes)) = some (some (.string ⟨#[]⟩), 1, 16) := by kernel_rfl
def scells (l : List (List UInt8)) : List Value := l.map fun x => .string (bt x)
def OS (B : Nat) (w : World) (ao : Option Addr) (cap : Nat) (l : List (List UInt8)) : Prop := ORow 9 1 B w (.slice ao l.length cap) l.length (scells l)
theorem os_later {B cap : Nat} {w w' : World} {ao : Option Addr} {l : List (List UInt8)} (h : OS B w ao cap l) (hb : Below w.heap.size w w') : OS B w' ao cap l := orow_later h hb
theorem os_at {B cap : Nat} {w : World} {ao : Option Addr} {l : List (List UInt8)} (h : OS B w ao cap l) (i : Nat) (hi : i < l.length) :
    ∃ g, ao = some ⟨g, 0, none⟩ ∧ g < w.heap.size ∧ ∀ w', Below w.heap.size w w' → w'.cell? ⟨g, i, none⟩ = some (.string (bt l[i])) := by
  obtain ⟨g, hg, hlt, h0⟩ := orow_cell h i (by simpa [scells] using hi)
  refine ⟨g, hg, hlt, fun w' hb => (h0 w' hb).trans ?_⟩
  unfold scells
  rw [List.getElem?_map, List.getElem?_eq_getElem hi]
  rfl

/-- A text's lines. -/
def linesL : List UInt8 → List (List UInt8)
  | [] => [[]]
  | c :: t => if c = 10 then [] :: linesL t else match linesL t with
    | [] => [[c]]
    | l :: r => (c :: l) :: r
theorem linesL_ne : ∀ t, linesL t ≠ []
  | [] => by simp [linesL]
  | c :: t => by
    unfold linesL
    split
    · simp
    · cases h : linesL t <;> simp
theorem linesL_none : ∀ {x : List UInt8}, (∀ b ∈ x, b ≠ 10) → linesL x = [x]
  | [], _ => rfl
  | c :: x, h => by
    have h1 := linesL_none (x := x) (fun b hb => h b (by simp [hb]))
    unfold linesL
    rw [if_neg (h c (by simp)), h1]
theorem linesL_hit : ∀ {x r : List UInt8}, (∀ b ∈ x, b ≠ 10) → linesL (x ++ 10 :: r) = x :: linesL r
  | [], r, _ => by simp [linesL]
  | c :: x, r, h => by
    have h1 := linesL_hit (x := x) (r := r) (fun b hb => h b (by simp [hb]))
    show linesL (c :: (x ++ 10 :: r)) = _
    conv => lhs; unfold linesL
    rw [if_neg (h c (by simp)), h1]
theorem linesL_join : ∀ t, Lib.join (linesL t) [10] = t
  | [] => rfl
  | c :: t => by
    have h1 := linesL_join t
    have h2 := linesL_ne t
    unfold linesL
    split
    · rename_i h
      subst h
      cases hl : linesL t with
      | nil => exact absurd hl h2
      | cons l r =>
        rw [hl] at h1
        have : Lib.join ([] :: l :: r) [10] = 10 :: Lib.join (l :: r) [10] := by simp [Lib.join, List.intercalate]
        rw [this, h1]
    · cases hl : linesL t with
      | nil => exact absurd hl h2
      | cons l r =>
        rw [hl] at h1
        simp only
        cases r with
        | nil => rw [Lib.join_one] at h1 ⊢; rw [h1]
        | cons m r =>
          have e1 : Lib.join ((c :: l) :: m :: r) [10] = c :: Lib.join (l :: m :: r) [10] := by simp [Lib.join, List.intercalate]
          rw [e1, h1]

theorem split_lines : ∀ (k : Nat) (t : List UInt8), t.count 10 ≤ k → Lib.splitK [10] 0 k t = linesL t
  | 0, t, h => by
    have : ∀ b ∈ t, b ≠ 10 := fun b hb e => by
      subst e
      have := List.count_pos_iff.2 hb
      omega
    rw [linesL_none this]
    rfl
  | k + 1, t, h => by
    unfold Lib.splitK
    rw [Lib.index_one]
    have key : ∀ t : List UInt8, (Lib.indexByte t 10 = -1 ∧ ∀ b ∈ t, b ≠ 10) ∨ ∃ x r, t = x ++ 10 :: r ∧ (∀ b ∈ x, b ≠ 10) ∧ Lib.indexByte t 10 = (x.length : Nat) := by
      intro t
      induction t with
      | nil => exact .inl ⟨rfl, by simp⟩
      | cons c t ih =>
        by_cases hc : c = 10
        · subst hc
          exact .inr ⟨[], t, rfl, by simp, by simp [Lib.indexByte]⟩
        · have hc' : (c == 10) = false := beq_eq_false_iff_ne.2 hc
          rcases ih with ⟨i1, i2⟩ | ⟨x, r, rfl, i2, i3⟩
          · refine .inl ⟨by simp [Lib.indexByte, hc, i1], fun b hb => ?_⟩
            rcases List.mem_cons.1 hb with rfl | hb
            · exact hc
            · exact i2 b hb
          · refine .inr ⟨c :: x, r, rfl, fun b hb => ?_, ?_⟩
            · rcases List.mem_cons.1 hb with rfl | hb
              · exact hc
              · exact i2 b hb
            · have h3 : ((x.length : Int) == -1) = false := beq_eq_false_iff_ne.2 (by omega)
              unfold Lib.indexByte
              rw [i3, hc', h3]
              simp
    rcases key t with ⟨h1, h2⟩ | ⟨x, r, rfl, h2, h3⟩
    · rw [h1, linesL_none h2]
      rfl
    · have h4 : ((x.length : Int) == -1) = false := beq_eq_false_iff_ne.2 (by omega)
      have h5 : r.count 10 ≤ k := by
        rw [List.count_append, List.count_cons_self] at h
        omega
      have e1 : (x ++ 10 :: r).take x.length = x := by simp
      have e2 : (x ++ 10 :: r).drop (x.length + 1) = r := by
        rw [← List.drop_drop]; simp
      rw [h3, h4, linesL_hit h2]
      simp only [Bool.false_eq_true, if_false, Int.toNat_natCast, Nat.add_zero, List.length_cons, List.length_nil, Nat.zero_add, e1, e2, split_lines k r h5]

/-- What the lines of a text give. -/
def LinesPost (B : Nat) (r : List (List UInt8)) (w : World) (e : Ending) (w' : World) : Prop := ∃ ao cap, e = .returned (.slice ao r.length cap) ∧ OS B w' ao cap r ∧ Below w.heap.size w w'

theorem no10_snoc {x : List UInt8} {c : UInt8} (h : ∀ b ∈ x, b ≠ 10) (hc : c ≠ 10) : ∀ b ∈ x ++ [c], b ≠ 10 := by
  intro b hb
  rcases List.mem_append.1 hb with hb | hb
  · exact h b hb
  · simp at hb; subst hb; exact hc

set_option maxHeartbeats 4000000 in
theorem yLines (s : ByteArray) (w : World) (hs : s.size ≤ 100000) : Calls Tryz.prog 26 #[.string s] w (LinesPost w.heap.size (linesL s.data.toList) w) := by
  generalize hT : linesL s.data.toList = T
  have HT := Lib.hid hT
  clear hT
  have hob0 := orow_empty 9 1 w.heap.size w (Nat.le_refl _)
  have hb0 : Below w.heap.size w (w.alloc (.cells #[] 9)) := (Below.refl _ _).alloc (Nat.le_refl _) _
  go_enter Tryz.func26, Tryz.ntmps26
  go_wp2_with fail
  generalize hB : w.heap.size = B at *
  have hBs : B ≤ w.heap.size := Nat.le_of_eq hB.symm
  have HB := Lib.hid hB
  clear hB
  go_loopw [3, 4, 5] (fun ov av iv wr => ∃ (k a : Nat) (ao : Option Addr) (cap : Nat) (acc : List (List UInt8)), iv = .int .i64 k ∧ av = .int .i64 a ∧ a ≤ k ∧ k ≤ s.size ∧ ov = .slice ao acc.length cap ∧ acc.length ≤ k ∧ Hid (OS B wr ao cap acc) ∧ Below B w wr ∧
    Hid (T = acc ++ linesL (s.data.toList.drop a)) ∧ Hid (∀ b ∈ (s.data.toList.drop a).take (k - a), b ≠ 10)) (fun _ _ iv _ => s.size - (intOf iv).toNat)
  case atStart => exact ⟨0, 0, _, 0, [], rfl, rfl, Nat.le_refl _, Nat.zero_le _, rfl, Nat.le_refl _, Lib.hid hob0, hb0, Lib.hid (by rw [← HT.out]; rfl), Lib.hid (by simp)⟩
  case round =>
    obtain ⟨k, a, ao, cap, acc, rfl, rfl, hak, hk, rfl, hal, hos, hb, hTT, hno⟩ := hrel
    clear hob0 hb0
    have e0 : (0 : Int) ≤ (k : Int) := by omega
    have e00 : (0 : Int) ≤ (a : Int) := by omega
    have eak : (a : Int) ≤ (k : Int) := by omega
    have eks : (k : Int) ≤ (s.size : Int) := by omega
    have hm : acc.length ≤ 1000000 := by omega
    by_cases hlt : k < s.size
    · have e1 : (k : Int) < (s.size : Int) := by omega
      have hd := drop_at s k hlt
      have hsplit : s.data.toList.drop a = (s.data.toList.drop a).take (k - a) ++ s.data.toList.drop k := by
        conv => lhs; rw [← List.take_append_drop (k - a) (s.data.toList.drop a)]
        rw [List.drop_drop, show a + (k - a) = k by omega]
      by_cases c10 : (s[k].toNat : Int) = 10
      · have hc : s[k] = 10 := u8_eq (c := s[k]) (d := 10) c10
        have hV : linesL (s.data.toList.drop a) = (s.data.toList.drop a).take (k - a) :: linesL (s.data.toList.drop (k + 1)) := by
          conv => lhs; rw [hsplit, hd, hc]
          exact linesL_hit hno.out
        have hxe : bt ((s.data.toList.drop a).take (k - a)) = s.extract a k := by
          apply ByteArray.ext
          apply Array.toList_inj.1
          rw [ByteArray.data_extract, Array.toList_extract, List.extract_eq_take_drop]
        have HV := Lib.hid (show T = (acc ++ [(s.data.toList.drop a).take (k - a)]) ++ linesL (s.data.toList.drop (k + 1)) by rw [hTT.out, hV]; simp)
        have HXE := Lib.hid hxe
        have hos2 := hos.out
        unfold OS at hos2
        clear hV hxe hd hsplit hc hos
        go_wp2_with (at_builtin; refine wpList_append_elem infoStrR rfl (by decide) (by decide) Tryz.underlying45 _ rfl _ _ rfl B _ _ _ rfl (World.ownsRow.alloc hos2 _) wr.heap.size rfl [.string (s.extract a k)] rfl ?ta1 ?ta2 hm ?ta3 ?ta4)
        case ta1 =>
          intro j u hj
          match j, hj with
          | 0, hj => simp at hj; subst hj; exact cell_new1 _ _ _
        case ta2 => first | rfl | (intro u hu; simp at hu; subst hu; rfl)
        case ta3 => have := hb.size; simp; omega
        case ta4 =>
          intro ao' cap' w3 g3 g4
          have hb4 : Below B w w3 := orow_below (World.ownsRow.alloc hos2 _) (hb.alloc (by have := hb.size; omega) _) g4 hBs
          have hl1 : (acc ++ [(s.data.toList.drop a).take (k - a)]).length = acc.length + 1 := by simp
          have hos3 : OS B w3 ao' cap' (acc ++ [(s.data.toList.drop a).take (k - a)]) := by
            unfold OS
            rw [hl1]
            unfold scells
            rw [List.map_append, List.map_cons, List.map_nil, HXE.out]
            exact g3
          have HOS := Lib.hid hos3
          clear g3 g4 hb hos2 hos3
          go_wp2_with fail
          go_roundw
          case rel => exact ⟨k + 1, k + 1, ao', cap', _, by go_num, by go_num, Nat.le_refl _, by omega, by rw [hl1], by omega, HOS, hb4, HV, Lib.hid (by simp)⟩
          case measure => simp [intOf]; omega
      · have c10b := ne_b c10
        have hn : (s.data.toList.drop a).take (k + 1 - a) = (s.data.toList.drop a).take (k - a) ++ [s[k]] := by
          rw [show k + 1 - a = (k - a) + 1 by omega, List.take_add_one, List.getElem?_drop, show a + (k - a) = k by omega]
          have : s.data.toList[k]? = some s[k] := by
            rw [List.getElem?_eq_getElem (by simpa using hlt)]; rfl
          rw [this]; rfl
        have HN := Lib.hid (show ∀ b ∈ (s.data.toList.drop a).take (k + 1 - a), b ≠ 10 by rw [hn]; exact no10_snoc hno.out (fun e => c10 (by rw [e]; rfl)))
        clear hn hd hsplit c10
        go_wp2_with fail
        go_roundw
        case rel => exact ⟨k + 1, a, ao, cap, acc, by go_num, rfl, by omega, by omega, rfl, by omega, hos, hb, hTT, HN⟩
        case measure => simp [intOf]; omega
    · obtain rfl : k = s.size := by omega
      have e1 : ¬ (s.size : Int) < (s.size : Int) := by omega
      have hall : (s.data.toList.drop a).take (s.size - a) = s.data.toList.drop a := List.take_of_length_le (by rw [List.length_drop]; exact Nat.le_refl _)
      have hV : T = acc ++ [s.data.toList.drop a] := by
        rw [hTT.out, linesL_none (by rw [← hall]; exact hno.out)]
      have hxe : bt (s.data.toList.drop a) = s.extract a s.size := by
        apply ByteArray.ext
        apply Array.toList_inj.1
        rw [ext_drop]
      have HXE := Lib.hid hxe
      have HV := Lib.hid hV
      have hos2 := hos.out
      unfold OS at hos2
      clear hxe hV hall hos
      go_wp2_with (at_builtin; refine wpList_append_elem infoStrR rfl (by decide) (by decide) Tryz.underlying45 _ rfl _ _ rfl B _ _ _ rfl (World.ownsRow.alloc hos2 _) wr.heap.size rfl [.string (s.extract a s.size)] rfl ?tb1 ?tb2 hm ?tb3 ?tb4)
      case tb2 => first | rfl | (intro u hu; simp at hu; subst hu; rfl)
      case tb3 => have := hb.size; simp; omega
      case tb4 =>
        intro ao' cap' w3 g3 g4
        have hb4 : Below B w w3 := orow_below (World.ownsRow.alloc hos2 _) (hb.alloc (by have := hb.size; omega) _) g4 hBs
        have hl1 : (acc ++ [s.data.toList.drop a]).length = acc.length + 1 := by simp
        have hos3 : OS B w3 ao' cap' (acc ++ [s.data.toList.drop a]) := by
          unfold OS
          rw [hl1]
          unfold scells
          rw [List.map_append, List.map_cons, List.map_nil, HXE.out]
          exact g3
        have HOS := Lib.hid hos3
        clear g3 g4 hb hos2 hos3
        go_wp2_with fail
        go_ret
        have hBe := HB.out
        exact ⟨ao', cap', by rw [HV.out, hl1]; rfl, by rw [HV.out]; exact HOS.out, by rw [hBe]; exact hb4⟩

end Go.Proofs.YtmnkekepccdlcaaGreatDoor

namespace Go.Proofs.YtmnkekepccdlcaaGreatDoor
set_option linter.unusedVariables false
set_option linter.unusedSimpArgs false
open Go.RowKit

/-- What is read of lines: the events, or which line is none. -/
def rdE : Nat → List (List UInt8) → Except Nat (List Ev)
  | _, [] => .ok []
  | k, x :: r => match parseEv x with
    | none => .error (k + 1)
    | some e => match rdE (k + 1) r with
      | .ok l => .ok (e :: l)
      | .error j => .error j
def preE (acc : List Ev) : Except Nat (List Ev) → Except Nat (List Ev)
  | .ok l => .ok (acc ++ l)
  | .error j => .error j
theorem preE_nil (r : Except Nat (List Ev)) : preE [] r = r := by cases r <;> rfl
theorem rdE_some {k : Nat} {x : List UInt8} {r : List (List UInt8)} {e : Ev} (acc : List Ev) (h : parseEv x = some e) : preE acc (rdE k (x :: r)) = preE (acc ++ [e]) (rdE (k + 1) r) := by
  show preE acc (match parseEv x with | none => .error (k + 1) | some e => match rdE (k + 1) r with | .ok l => .ok (e :: l) | .error j => .error j) = _
  rw [h]
  cases hr : rdE (k + 1) r with
  | ok l => simp [preE]
  | error j => rfl
theorem rdE_none {k : Nat} {x : List UInt8} {r : List (List UInt8)} (acc : List Ev) (h : parseEv x = none) : preE acc (rdE k (x :: r)) = .error (k + 1) := by
  show preE acc (match parseEv x with | none => .error (k + 1) | some e => match rdE (k + 1) r with | .ok l => .ok (e :: l) | .error j => .error j) = _
  rw [h]
  rfl
/-- Lines, but for an empty last one. -/
def cutL (L : List (List UInt8)) : List (List UInt8) := if L.getLast? = some [] then L.dropLast else L

theorem infoEv : (Tryz.prog.info? 27).map (fun i => (i.zero, i.size, i.bytes)) = some (some (.agg #[.int .i64 0, .int .i64 0, .int .i64 0, .int .i64 0, .string ⟨#[]⟩, .int .i64 0, .int .i64 0, .int .i64 0, .int .i64 0, .int .i64 0, .int .i64 0, .int .i64 0]), 12, 104) := by kernel_rfl
def evsCells (l : List Ev) : List Value := l.flatMap fun x => (evC x).toList
theorem evsCells_len : ∀ l : List Ev, (evsCells l).length = l.length * 12
  | [] => rfl
  | x :: l => by
    have := evsCells_len l
    unfold evsCells at this ⊢
    rw [List.flatMap_cons, List.length_append, this]
    simp only [List.length_cons, List.length_nil, List.size_toArray, Array.length_toList]
    omega
theorem evsCells_snoc (l : List Ev) (x : Ev) : evsCells (l ++ [x]) = evsCells l ++ (evC x).toList := by simp [evsCells]
theorem evsCells_at : ∀ (l : List Ev) (i : Nat) (h : i < l.length) (j : Nat), j < 12 → (evsCells l)[i * 12 + j]? = (evC l[i])[j]?
  | x :: l, 0, _, j, hj => by
    unfold evsCells
    rw [List.flatMap_cons, List.getElem?_append_left (by simp; omega)]
    simp
  | x :: l, i + 1, h, j, hj => by
    have ih := evsCells_at l i (by simpa using h) j hj
    unfold evsCells at ih ⊢
    rw [List.flatMap_cons, List.getElem?_append_right (by simp; omega)]
    have e : (i + 1) * 12 + j - (evC x).toList.length = i * 12 + j := by simp; omega
    rw [e, ih]
    rfl
/-- A row of events of the call's own. -/
def OEv (B : Nat) (w : World) (ao : Option Addr) (cap : Nat) (l : List Ev) : Prop := ORow 27 12 B w (.slice ao l.length cap) l.length (evsCells l)
theorem oev_later {B cap : Nat} {w w' : World} {ao : Option Addr} {l : List Ev} (h : OEv B w ao cap l) (hb : Below w.heap.size w w') : OEv B w' ao cap l := orow_later h hb
theorem oev_nil (B : Nat) (w : World) : OEv B w none 0 [] := ⟨rfl, .inl ⟨rfl, rfl⟩⟩
end Go.Proofs.YtmnkekepccdlcaaGreatDoor

namespace Go.Proofs.YtmnkekepccdlcaaGreatDoor
set_option linter.unusedVariables false
set_option linter.unusedSimpArgs false
open Go.RowKit

theorem linesL_facts : ∀ t : List UInt8, (linesL t).length ≤ t.length + 1 ∧ ∀ x ∈ linesL t, x.length ≤ t.length
  | [] => by simp [linesL]
  | c :: t => by
    obtain ⟨h1, h2⟩ := linesL_facts t
    by_cases hc : c = 10
    · have e : linesL (c :: t) = [] :: linesL t := by show (if c = 10 then [] :: linesL t else match linesL t with | [] => [[c]] | l :: r => (c :: l) :: r) = _; rw [if_pos hc]
      rw [e]
      refine ⟨by simp only [List.length_cons]; omega, fun x hx => ?_⟩
      rcases List.mem_cons.1 hx with rfl | hx
      · simp
      · have := h2 x hx; simp only [List.length_cons]; omega
    · cases hl : linesL t with
      | nil => exact absurd hl (linesL_ne t)
      | cons l r =>
        have e : linesL (c :: t) = (c :: l) :: r := by show (if c = 10 then [] :: linesL t else match linesL t with | [] => [[c]] | l :: r => (c :: l) :: r) = _; rw [if_neg hc, hl]
        rw [e]
        rw [hl] at h1 h2
        refine ⟨by simp only [List.length_cons] at h1 ⊢; omega, fun x hx => ?_⟩
        rcases List.mem_cons.1 hx with rfl | hx
        · have := h2 l (by simp); simp only [List.length_cons]; omega
        · have := h2 x (by simp [hx]); simp only [List.length_cons]; omega
theorem lLinesS (s : ByteArray) (w : World) (hs : s.size ≤ 100000) (he : EnvL w) : Calls Tryz.prog 52 #[.string s, .string ⟨#[10]⟩] w fun e w' =>
    e = .returned (.slice (some ⟨w.heap.size, 0, none⟩) (linesL s.data.toList).length (linesL s.data.toList).length) ∧ WL w' w.heap.size (linesL s.data.toList) ∧ Below w.heap.size w w' := by
  obtain ⟨m, hm⟩ := he.maxl
  have hcount : Lib.countB s ⟨#[10]⟩ = s.data.toList.count 10 := Lib.count_one 10 s.data.toList
  have hdat : (Lib.splitB ⟨#[10]⟩ 0 (Lib.countB s ⟨#[10]⟩) s).map (fun x : ByteArray => x.data.toList) = linesL s.data.toList := by
    rw [Lib.splitB_data, hcount]
    exact split_lines _ _ (Nat.le_refl _)
  have hlen : (linesL s.data.toList).length = Lib.countB s ⟨#[10]⟩ + 1 := by
    rw [← hdat, List.length_map, Lib.splitB_all _ (by decide) 0 _ s rfl]
  refine (Tryz.strings_Split s ⟨#[10]⟩ m w (by omega) hm (by decide)).mono ?_
  rintro e w' ⟨rfl, rfl⟩
  refine ⟨by rw [hlen], ?_, (Below.refl _ _).alloc (Nat.le_refl _) _⟩
  rw [← hdat]
  exact wl_data fun i x hx => ((Blk.new w 9 _).cell i).trans (by simp [hx])

def rdRes (r : Except Nat (List Ev)) (B : Nat) (w0 w : World) (e : Ending) : Prop := match r with
  | .ok l => ∃ ao cap, e = .returned (.tuple #[.slice ao l.length cap, .int .i64 0, .int .i64 0]) ∧ OEv B w ao cap l ∧ Below w0.heap.size w0 w
  | .error j => e = .returned (.tuple #[.slice none 0 0, .int .i64 (j : Int), .int .i64 2]) ∧ Below w0.heap.size w0 w

theorem cutL_facts (L : List (List UInt8)) (hne : L ≠ []) : ∃ x, L[L.length - 1]? = some x ∧ (x = [] → cutL L = L.dropLast) ∧ (x ≠ [] → cutL L = L) := by
  have h1 : L.length - 1 < L.length := by
    cases L with
    | nil => exact absurd rfl hne
    | cons => simp
  refine ⟨L[L.length - 1], List.getElem?_eq_getElem h1, ?_, ?_⟩
  · intro h
    unfold cutL
    rw [List.getLast?_eq_getElem?, List.getElem?_eq_getElem h1, h, if_pos rfl]
  · intro h
    unfold cutL
    rw [List.getLast?_eq_getElem?, List.getElem?_eq_getElem h1, if_neg (by simpa using h)]

set_option maxHeartbeats 4000000 in
set_option maxRecDepth 100000 in
theorem lRead (s : ByteArray) (w : World) (hs : s.size ≤ 10000) (he : EnvL w) : Calls Tryz.prog 24 #[.string s] w fun e w' => rdRes (rdE 0 (cutL (linesL s.data.toList))) w.heap.size w w' e := by
  have HF := Lib.hid (lLinesS s w (by omega) he)
  have HE := Lib.hid he
  have hne := linesL_ne s.data.toList
  have hszl : s.data.toList.length ≤ 10000 := hs
  have hsz : ∀ x ∈ linesL s.data.toList, x.length ≤ 10000 := fun x hx => Nat.le_trans ((linesL_facts _).2 x hx) hszl
  have hll : (linesL s.data.toList).length ≤ 10001 := by have := (linesL_facts s.data.toList).1; omega
  clear hszl
  generalize linesL s.data.toList = L at *
  obtain ⟨x0, hx0, hA, hB'⟩ := cutL_facts L hne
  have h0 : 0 < L.length := by cases L with | nil => exact absurd rfl hne | cons => simp
  clear he hne hs
  have e1 : IntKind.i64.wrap ((L.length : Int) - 1) = ((L.length - 1 : Nat) : Int) := by rw [IntWalk.i64_in _ (by omega)]; omega
  have e2 : (0 : Int) ≤ ((L.length - 1 : Nat) : Int) := by omega
  have e3 : ((L.length - 1 : Nat) : Int) < (L.length : Int) := by omega
  have HX := Lib.hid hx0
  have HAB := Lib.hid (And.intro hA hB')
  have HS := Lib.hid (And.intro hsz hll)
  clear hA hB' hsz hll h0 hx0
  go_enter Tryz.func24, Tryz.ntmps24
  go_wp2_with fail
  refine HF.out.mono ?_; rintro e w1 ⟨rfl, hwl, hb1⟩
  have hc := hwl _ _ HX.out
  generalize hg : w.heap.size = g at *
  have HG := Lib.hid hg
  have hgB : g ≤ w.heap.size := Nat.le_of_eq hg.symm
  have HWL := Lib.hid hwl
  have HB1 := Lib.hid hb1
  clear hwl hb1 hg HF
  go_upto_if 19 with fail
  go_cut [6] (fun v wx => v = .slice (some ⟨g, 0, none⟩) (cutL L).length L.length ∧ wx = w1)
  case first =>
    cases hx : x0.isEmpty with
    | true =>
      have hl : (cutL L).length = L.length - 1 := by rw [HAB.out.1 (List.isEmpty_iff.1 hx), List.length_dropLast]
      have HL := Lib.hid hl
      clear hl
      go_wp2_with fail
      go_meet
      exact ⟨by rw [HL.out], rfl⟩
    | false =>
      have hl : cutL L = L := HAB.out.2 (fun h => by rw [h] at hx; cases hx)
      have HL := Lib.hid hl
      clear hl
      go_wp2_with fail
      go_meet
      exact ⟨by rw [HL.out], rfl⟩
  case rest =>
    obtain ⟨rfl, rfl⟩ := hcut
    have hsub : ∀ (i : Nat) (x : List UInt8), (cutL L)[i]? = some x → L[i]? = some x := by
      intro i x hi
      unfold cutL at hi
      split at hi
      · have hlt := (List.getElem?_eq_some_iff.1 hi).1
        rw [List.getElem?_dropLast] at hi
        split at hi
        · exact hi
        · cases hi
      · exact hi
    have hML : (cutL L).length ≤ 10001 := by
      unfold cutL
      split
      · rw [List.length_dropLast]; have := HS.out.2; omega
      · exact HS.out.2
    have HM : Hid ((∀ (i : Nat) (x : List UInt8), (cutL L)[i]? = some x → wc.cell? ⟨g, i, none⟩ = some (.string ⟨x.toArray⟩) ∧ x.length ≤ 10000)) := Lib.hid fun i x hi => ⟨HWL.out i x (hsub i x hi), HS.out.1 x (List.mem_of_getElem? (hsub i x hi))⟩
    obtain ⟨M, hMM⟩ : ∃ M, cutL L = M := ⟨_, rfl⟩
    rw [hMM] at HM hML ⊢
    have HMQ := Lib.hid hMM
    clear hMM
    clear hsub HX HAB HS HWL hc e1 e2 e3
    generalize L.length = LL at *
    have HMM := Lib.hid (preE_nil (rdE 0 M)).symm
    go_wp2_with fail
    go_loopw [5, 27] (fun ov iv wr => ∃ (k : Nat) (ao : Option Addr) (cap : Nat) (acc : List Ev), iv = .int .i64 k ∧ k ≤ M.length ∧ ov = .slice ao acc.length cap ∧ acc.length ≤ k ∧ Hid (OEv wc.heap.size wr ao cap acc) ∧ Below wc.heap.size wc wr ∧
      Hid (rdE 0 M = preE acc (rdE k (M.drop k)))) (fun _ iv _ => M.length - (intOf iv).toNat)
    case atStart => exact ⟨0, none, 0, [], rfl, Nat.zero_le _, rfl, Nat.le_refl _, Lib.hid (oev_nil _ _), Below.refl _ _, HMM⟩
    case round =>
      obtain ⟨k, ao, cap, acc, rfl, hk, rfl, hal, hos, hbw, hI⟩ := hrel
      have hb : Below g w wr := HB1.out.up hbw hgB
      have e0 : (0 : Int) ≤ (k : Int) := by omega
      have hm : acc.length ≤ 1000000 := by omega
      by_cases hlt : k < M.length
      · have e1 : (k : Int) < (M.length : Int) := by omega
        have hd : M.drop k = M[k] :: M.drop (k + 1) := List.drop_eq_getElem_cons hlt
        obtain ⟨hc0, hxl⟩ := HM.out k M[k] (List.getElem?_eq_getElem hlt)
        have hc : wr.cell? ⟨g, k, none⟩ = some (.string ⟨M[k].toArray⟩) := (hbw.cell (p := ⟨g, k, none⟩) (block_lt hc0)).trans hc0
        have hI2 := hI.out
        rw [hd] at hI2
        have HPs := Lib.hid (lparse M[k] hxl wr (HE.out.later (by rw [HG.out]; exact hb)))
        generalize M[k] = x at *
        clear hc0 hxl hd hI
        cases hp : parseEv x with
        | none =>
          rw [hp] at HPs
          have HPs : Hid (Calls Tryz.prog 40 #[.string ⟨x.toArray⟩] wr fun e w' => e = .returned (.tuple #[.agg #[.int .i64 0, .int .i64 0, .int .i64 0, .int .i64 0, .string ⟨#[]⟩, .int .i64 0, .int .i64 0, .int .i64 0, .int .i64 0, .int .i64 0, .int .i64 0, .int .i64 0], .int .i64 2]) ∧ Below wr.heap.size wr w') := HPs
          have HR := Lib.hid (hI2.trans (rdE_none acc hp))
          clear hI2 hp
          go_wp2_with fail
          refine HPs.out.mono ?_; rintro e w3 ⟨rfl, hb3⟩
          go_wp2_with fail
          go_ret3
          rw [HMQ.out, HR.out, HG.out]
          exact ⟨by simp, by rw [HG.out]; exact (hb.up hb3 hgB).alloc (Nat.le_trans hgB (hb.up hb3 hgB).size) _⟩
        | some y =>
          rw [hp] at HPs
          have HPs : Hid (Calls Tryz.prog 40 #[.string ⟨x.toArray⟩] wr fun e w' => e = .returned (.tuple #[.agg #[.int .i64 y.kind, .int .i64 y.id, .int .i64 y.n, .int .i64 y.tick, .string y.bytes, .int .i64 y.err, .int .i64 y.sT, .int .i64 y.sA, .int .i64 y.sW, .int .i64 y.sR, .int .i64 y.sN, .int .i64 y.sS], .int .i64 0]) ∧ Below wr.heap.size wr w') := HPs
          have HR := Lib.hid (hI2.trans (rdE_some acc hp))
          clear hI2 hp
          go_wp2_with fail
          refine HPs.out.mono ?_; rintro e w3 ⟨rfl, hb3⟩
          have hos2 := oev_later hos.out hb3
          have hbw4 := hbw.up hb3
          unfold OEv at hos2
          clear hos hb hbw hb3 hc
          go_wp2_with (at_builtin; refine wpList_append_elem infoEv rfl (by decide) (by decide) Tryz.underlying38 _ rfl _ _ rfl wc.heap.size _ _ _ rfl (World.ownsRow.alloc (World.ownsRow.alloc hos2 _) _) (w3.heap.size + 1) rfl [.int .i64 y.kind, .int .i64 y.id, .int .i64 y.n, .int .i64 y.tick, .string y.bytes, .int .i64 y.err, .int .i64 y.sT, .int .i64 y.sA, .int .i64 y.sW, .int .i64 y.sR, .int .i64 y.sN, .int .i64 y.sS] rfl ?ta1 ?ta2 hm ?ta3 ?ta4)
          case ta1 =>
            have kq : Blk ((w3.alloc (.cells #[.int .i64 y.kind, .int .i64 y.id, .int .i64 y.n, .int .i64 y.tick, .string y.bytes, .int .i64 y.err, .int .i64 y.sT, .int .i64 y.sA, .int .i64 y.sW, .int .i64 y.sR, .int .i64 y.sN, .int .i64 y.sS] 27)).alloc (.cells #[.int .i64 y.kind, .int .i64 y.id, .int .i64 y.n, .int .i64 y.tick, .string y.bytes, .int .i64 y.err, .int .i64 y.sT, .int .i64 y.sA, .int .i64 y.sW, .int .i64 y.sR, .int .i64 y.sN, .int .i64 y.sS] 27)) (w3.heap.size + 1) 27 #[.int .i64 y.kind, .int .i64 y.id, .int .i64 y.n, .int .i64 y.tick, .string y.bytes, .int .i64 y.err, .int .i64 y.sT, .int .i64 y.sA, .int .i64 y.sW, .int .i64 y.sR, .int .i64 y.sN, .int .i64 y.sS] := by simpa using Blk.new (w3.alloc (.cells #[.int .i64 y.kind, .int .i64 y.id, .int .i64 y.n, .int .i64 y.tick, .string y.bytes, .int .i64 y.err, .int .i64 y.sT, .int .i64 y.sA, .int .i64 y.sW, .int .i64 y.sR, .int .i64 y.sN, .int .i64 y.sS] 27)) 27 #[.int .i64 y.kind, .int .i64 y.id, .int .i64 y.n, .int .i64 y.tick, .string y.bytes, .int .i64 y.err, .int .i64 y.sT, .int .i64 y.sA, .int .i64 y.sW, .int .i64 y.sR, .int .i64 y.sN, .int .i64 y.sS]
            intro j u hj
            exact (kq.cell j).trans (by simpa using hj)
          case ta2 => intro u hu; simp at hu; rcases hu with rfl | rfl | rfl | rfl | rfl | rfl | rfl | rfl | rfl | rfl | rfl | rfl <;> rfl
          case ta3 => have := hbw4.size; simp; omega
          case ta4 =>
            intro ao' cap' w5 g3 g4
            have hbw5 : Below wc.heap.size wc w5 := orow_below (World.ownsRow.alloc (World.ownsRow.alloc hos2 _) _) ((hbw4.alloc hbw4.size _).alloc (by have := hbw4.size; simp; omega) _) g4 (Nat.le_refl _)
            have hl1 : (acc ++ [y]).length = acc.length + 1 := by simp
            have hos3 : OEv wc.heap.size w5 ao' cap' (acc ++ [y]) := by
              unfold OEv
              rw [hl1, evsCells_snoc]
              exact g3
            have HOS := Lib.hid hos3
            clear g3 g4 hos2 hos3 hbw4
            go_wp2_with fail
            go_roundw
            case rel => exact ⟨k + 1, ao', cap', _, by go_num, by omega, by rw [hl1], by omega, HOS, hbw5, HR⟩
            case measure => simp [intOf]; omega
      · obtain rfl : k = M.length := by omega
        have hI2 := hI.out
        rw [List.drop_length] at hI2
        have HR := Lib.hid (show rdE 0 M = .ok acc from hI2.trans (show Except.ok (acc ++ []) = Except.ok acc by rw [List.append_nil]))
        clear hI2 hI
        go_wp2_with fail
        go_ret3
        rw [HMQ.out, HR.out, HG.out]
        exact ⟨ao, cap, rfl, orow_lower hos.out (Nat.le_trans hgB HB1.out.size), by rw [HG.out]; exact hb⟩
end Go.Proofs.YtmnkekepccdlcaaGreatDoor

namespace Go.Proofs.YtmnkekepccdlcaaGreatDoor
set_option linter.unusedVariables false
set_option linter.unusedSimpArgs false
open Go.RowKit

theorem oev_at {B cap : Nat} {w : World} {ao : Option Addr} {l : List Ev} (h : OEv B w ao cap l) (i : Nat) (hi : i < l.length) :
    ∃ g, ao = some ⟨g, 0, none⟩ ∧ g < w.heap.size ∧ ∀ w', Below w.heap.size w w' → w'.cell? ⟨g, i * 12, none⟩ = some (.int .i64 l[i].kind) ∧ w'.cell? ⟨g, i * 12 + 1, none⟩ = some (.int .i64 l[i].id) ∧ w'.cell? ⟨g, i * 12 + 2, none⟩ = some (.int .i64 l[i].n) ∧ w'.cell? ⟨g, i * 12 + 3, none⟩ = some (.int .i64 l[i].tick) ∧ w'.cell? ⟨g, i * 12 + 4, none⟩ = some (.string l[i].bytes) ∧ w'.cell? ⟨g, i * 12 + 5, none⟩ = some (.int .i64 l[i].err) ∧ w'.cell? ⟨g, i * 12 + 6, none⟩ = some (.int .i64 l[i].sT) ∧ w'.cell? ⟨g, i * 12 + 7, none⟩ = some (.int .i64 l[i].sA) ∧ w'.cell? ⟨g, i * 12 + 8, none⟩ = some (.int .i64 l[i].sW) ∧ w'.cell? ⟨g, i * 12 + 9, none⟩ = some (.int .i64 l[i].sR) ∧ w'.cell? ⟨g, i * 12 + 10, none⟩ = some (.int .i64 l[i].sN) ∧ w'.cell? ⟨g, i * 12 + 11, none⟩ = some (.int .i64 l[i].sS) := by
  have hn := evsCells_len l
  unfold OEv at h
  obtain ⟨g, rfl, hg, h0⟩ := orow_cell h (i * 12) (by omega)
  refine ⟨g, rfl, hg, fun w' hb => ?_⟩
  have key : ∀ j, j < 12 → w'.cell? ⟨g, i * 12 + j, none⟩ = (evC l[i])[j]? := fun j hj => by
    obtain ⟨g1, e1, -, h1⟩ := orow_cell h (i * 12 + j) (by omega)
    cases e1
    exact (h1 w' hb).trans (evsCells_at l i hi j hj)
  exact ⟨key 0 (by decide), key 1 (by decide), key 2 (by decide), key 3 (by decide), key 4 (by decide), key 5 (by decide), key 6 (by decide), key 7 (by decide), key 8 (by decide), key 9 (by decide), key 10 (by decide), key 11 (by decide)⟩

set_option maxHeartbeats 4000000 in
set_option maxRecDepth 100000 in
theorem sSame (l : List Ev) (ao bo : Option Addr) (ca cb B1 B2 : Nat) (w : World) (ha : OEv B1 w ao ca l) (hb : OEv B2 w bo cb l) (hl : l.length ≤ 100000) :
    Calls Tryz.prog 25 #[.slice ao l.length ca, .slice bo l.length cb] w fun e w' => e = .returned (.bool true) ∧ Below w.heap.size w w' := by
  have HA := Lib.hid (fun i hi => oev_at ha i hi)
  have HB := Lib.hid (fun i hi => oev_at hb i hi)
  clear ha hb
  go_enter Tryz.func25, Tryz.ntmps25
  go_wp2_with fail
  go_loopw [5] (fun iv wr => ∃ k : Nat, iv = .int .i64 k ∧ k ≤ l.length ∧ Below w.heap.size w wr) (fun iv _ => l.length - (intOf iv).toNat)
  case atStart => exact ⟨0, rfl, Nat.zero_le _, Below.refl _ _⟩
  case round =>
    obtain ⟨i, rfl, hk, hbw⟩ := hrel
    have e0 : (0 : Int) ≤ (i : Int) := by omega
    by_cases hlt : i < l.length
    · obtain ⟨g, rfl, hg, d1⟩ := HA.out i hlt
      obtain ⟨g2, rfl, hg2, d2⟩ := HB.out i hlt
      have e1 : (i : Int) < (l.length : Int) := by omega
      generalize l[i] = x at *
      have d3 : ∀ w', Below wr.heap.size wr w' → w'.cell? ⟨g, i * 12, none⟩ = some (.int .i64 x.kind) ∧ w'.cell? ⟨g, i * 12 + 1, none⟩ = some (.int .i64 x.id) ∧ w'.cell? ⟨g, i * 12 + 2, none⟩ = some (.int .i64 x.n) ∧ w'.cell? ⟨g, i * 12 + 3, none⟩ = some (.int .i64 x.tick) ∧ w'.cell? ⟨g, i * 12 + 4, none⟩ = some (.string x.bytes) ∧ w'.cell? ⟨g, i * 12 + 5, none⟩ = some (.int .i64 x.err) ∧ w'.cell? ⟨g, i * 12 + 6, none⟩ = some (.int .i64 x.sT) ∧ w'.cell? ⟨g, i * 12 + 7, none⟩ = some (.int .i64 x.sA) ∧ w'.cell? ⟨g, i * 12 + 8, none⟩ = some (.int .i64 x.sW) ∧ w'.cell? ⟨g, i * 12 + 9, none⟩ = some (.int .i64 x.sR) ∧ w'.cell? ⟨g, i * 12 + 10, none⟩ = some (.int .i64 x.sN) ∧ w'.cell? ⟨g, i * 12 + 11, none⟩ = some (.int .i64 x.sS) := fun w' h => d1 w' (hbw.up h)
      have d4 : ∀ w', Below wr.heap.size wr w' → w'.cell? ⟨g2, i * 12, none⟩ = some (.int .i64 x.kind) ∧ w'.cell? ⟨g2, i * 12 + 1, none⟩ = some (.int .i64 x.id) ∧ w'.cell? ⟨g2, i * 12 + 2, none⟩ = some (.int .i64 x.n) ∧ w'.cell? ⟨g2, i * 12 + 3, none⟩ = some (.int .i64 x.tick) ∧ w'.cell? ⟨g2, i * 12 + 4, none⟩ = some (.string x.bytes) ∧ w'.cell? ⟨g2, i * 12 + 5, none⟩ = some (.int .i64 x.err) ∧ w'.cell? ⟨g2, i * 12 + 6, none⟩ = some (.int .i64 x.sT) ∧ w'.cell? ⟨g2, i * 12 + 7, none⟩ = some (.int .i64 x.sA) ∧ w'.cell? ⟨g2, i * 12 + 8, none⟩ = some (.int .i64 x.sW) ∧ w'.cell? ⟨g2, i * 12 + 9, none⟩ = some (.int .i64 x.sR) ∧ w'.cell? ⟨g2, i * 12 + 10, none⟩ = some (.int .i64 x.sN) ∧ w'.cell? ⟨g2, i * 12 + 11, none⟩ = some (.int .i64 x.sS) := fun w' h => d2 w' (hbw.up h)
      have hr := Below.refl wr.heap.size wr
      clear d1 d2 hg hg2
      go_upto_region 6 with fail
      refine wp_region_later wr.heap.size (by kernel_rfl) (by kernel_rfl) ?_
      have hu : ∀ u : Later wr.heap.size wr, Below wr.heap.size wr u.world := Later.below
      repeat (go_big_quiet_step ((fail)))
      refine wpQuiet_nil ?_
      intro w2 hb2
      clear hu hr d3 d4
      go_wp2_with fail
      go_roundw
      case rel => exact ⟨i + 1, by go_num, by omega, hbw.up hb2⟩
      case measure => simp [intOf]; omega
    · obtain rfl : i = l.length := by omega
      go_wp2_with fail
      go_ret
      exact ⟨rfl, hbw⟩
end Go.Proofs.YtmnkekepccdlcaaGreatDoor

namespace Go.Proofs.YtmnkekepccdlcaaGreatDoor
set_option linter.unusedVariables false
set_option linter.unusedSimpArgs false
open Go.RowKit

theorem dig_10 {l : List UInt8} (h : l.all digB = true) : ∀ b ∈ l, b ≠ 10 := fun b hb e => by
  subst e
  have := List.all_eq_true.1 h 10 hb
  revert this; decide
theorem itoa_10 (n : Int) : ∀ b ∈ Lib.itoa n, b ≠ 10 := by
  by_cases hn : n < 0
  · obtain ⟨u, rfl⟩ : ∃ u : Nat, n = -(u : Int) := ⟨n.natAbs, by omega⟩
    rw [Lib.itoa_neg u (by omega)]
    intro b hb
    rcases List.mem_cons.1 hb with rfl | hb
    · decide
    · exact dig_10 (dec_facts u).1 b hb
  · obtain ⟨u, rfl⟩ : ∃ u : Nat, n = u := ⟨n.toNat, by omega⟩
    rw [Lib.itoa_nonneg u]
    exact dig_10 (dec_facts u).1
theorem text_10 (t : Int) : ∀ b ∈ textT t, b ≠ 10 := by
  unfold textT
  split
  · decide
  · exact dig_10 (dec_facts _).1
theorem word_10 (l : List (List UInt8)) (hl : ∀ x ∈ l, ∀ b ∈ x, b ≠ 10) (n : Int) : ∀ b ∈ wordT l n, b ≠ 10 := by
  unfold wordT
  split
  · simp
  · cases h : l[n.toNat]? with
    | none => simp
    | some x => simpa using hl x (List.mem_of_getElem? h)
theorem hexD_10 : ∀ k : Fin 16, hexD k.val ≠ 10 := by decide
theorem sgn_10 (c : UInt8) : ∀ b ∈ sgn c, b ≠ 10 := by
  have hq : c.toNat / 16 < 16 := by have := c.toNat_lt; omega
  have hr : c.toNat % 16 < 16 := by omega
  have h1 := hexD_10 ⟨c.toNat / 16, hq⟩
  have h2 := hexD_10 ⟨c.toNat % 16, hr⟩
  intro b hb
  unfold sgn at hb
  split at hb
  · rename_i h
    simp only [List.mem_cons, List.not_mem_nil, or_false] at hb
    rcases hb with rfl | rfl
    · decide
    · rcases h with rfl | rfl <;> decide
  · split at hb
    · simp only [List.mem_cons, List.not_mem_nil, or_false] at hb; rcases hb with rfl | rfl <;> decide
    · split at hb
      · simp only [List.mem_cons, List.not_mem_nil, or_false] at hb; rcases hb with rfl | rfl <;> decide
      · split at hb
        · simp only [List.mem_cons, List.not_mem_nil, or_false] at hb; rcases hb with rfl | rfl <;> decide
        · split at hb
          · simp only [List.mem_cons, List.not_mem_nil, or_false] at hb
            rcases hb with rfl | rfl | rfl | rfl
            · decide
            · decide
            · exact h1
            · exact h2
          · rename_i h3 _ _ _
            simp only [List.mem_cons, List.not_mem_nil, or_false] at hb
            subst hb
            assumption
theorem quote_10 (l : List UInt8) : ∀ b ∈ quoteT l, b ≠ 10 := by
  intro b hb
  unfold quoteT at hb
  rcases List.mem_cons.1 hb with rfl | hb
  · decide
  · rcases List.mem_append.1 hb with hb | hb
    · obtain ⟨c, _, hc⟩ := List.mem_flatMap.1 hb
      exact sgn_10 c b hc
    · simp at hb; subst hb; decide
theorem joinL_10 : ∀ (w : List (List UInt8)), (∀ x ∈ w, ∀ b ∈ x, b ≠ 10) → ∀ b ∈ joinL w, b ≠ 10
  | [], _ => by simp [joinL]
  | [x], h => h x (by simp)
  | x :: y :: l, h => by
    intro b hb
    have hb : b ∈ x ++ 32 :: joinL (y :: l) := hb
    rcases List.mem_append.1 hb with hb | hb
    · exact h x (by simp) b hb
    · rcases List.mem_cons.1 hb with rfl | hb
      · decide
      · exact joinL_10 (y :: l) (fun z hz => h z (List.mem_cons_of_mem _ hz)) b hb
end Go.Proofs.YtmnkekepccdlcaaGreatDoor

namespace Go.Proofs.YtmnkekepccdlcaaGreatDoor
set_option linter.unusedVariables false
set_option linter.unusedSimpArgs false
open Go.ChangeShapes Go.WideShapes Go.ChangeAt Go.RowKit Go.Joins Go.Deep

section
variable {H : Type} {enc : TypeId × Value → H} {P : Program} {w : World} {base : Nat} {spare : Nat → Bool} {held : Bool}
theorem open_intsArg {r : Reach} {b0 : Nat} {t e : TypeId} {k : IntKind} {v : Value} {d : DataW H} {ps : List MemPlace} (ht : P.underlying t = some (.slice e)) (he : P.underlying e = some (.int k)) (hc : P.cellsOf e = 1)
    (hval : Value.okWide P w r b0 t v) (hd : DataW.Trod enc P w base spare held t v d ps) :
    ∃ (ao : Option Addr) (len cap : Nat) (zs : List Int), v = .slice ao len cap ∧ zs.length = len ∧ len ≤ maxLen ∧
      (∀ i (h : i < zs.length), ∃ b off, ao = some ⟨b, off, none⟩ ∧ w.cell? ⟨b, off + i, none⟩ = some (.int k zs[i])) ∧ (∀ n ∈ zs, (Lit.int k n).wf = true) := by
  obtain ⟨ao, len, cap, rfl⟩ := okWide_slice ht hval
  obtain ⟨fuel, hf⟩ := hd
  simp only [Value.cells] at hf
  rcases open_ints ht he hc hf with ⟨h, _⟩ | ⟨a, len', cap', zs, h, _, hlc, hm, hl, _, hcell, hwf⟩
  · simp only [List.cons.injEq, Value.slice.injEq, and_true] at h
    obtain ⟨rfl, rfl, rfl⟩ := h
    exact ⟨none, 0, 0, [], rfl, rfl, by decide, fun i h => absurd h (by simp), by simp⟩
  · simp only [List.cons.injEq, Value.slice.injEq, and_true] at h
    obtain ⟨rfl, rfl, rfl⟩ := h
    have hle : len ≤ zs.length := by rw [hl]; split <;> omega
    refine ⟨some a, len, cap, zs.take len, rfl, by simp; omega, by omega, fun i hi => ?_, fun n hn => hwf n (List.mem_of_mem_take hn)⟩
    simp only [List.length_take] at hi
    have h0 := hcell i (by omega)
    obtain ⟨b, off, sp⟩ := a
    have hsp : sp = none := by
      have := World.cell?_spot (hcell 0 (by omega))
      simpa [Addr.add] using this
    subst hsp
    refine ⟨b, off, rfl, ?_⟩
    rw [add_plain] at h0
    rw [h0, List.getElem_take, List.getD_eq_getElem?_getD, List.getElem?_eq_getElem (by omega)]
    rfl
end
end Go.Proofs.YtmnkekepccdlcaaGreatDoor

namespace Go.Proofs.YtmnkekepccdlcaaGreatDoor
set_option linter.unusedVariables false
set_option linter.unusedSimpArgs false
open Go.ChangeShapes Go.WideShapes Go.ChangeAt Go.RowKit Go.Joins Go.Deep

section
variable {H : Type} {enc : TypeId × Value → H} {P : Program} {w : World} {base : Nat} {spare : Nat → Bool} {held : Bool}
theorem open_cellsArg {r : Reach} {b0 c : Nat} {t e : TypeId} {v : Value} {d : DataW H} {ps : List MemPlace} (ht : P.underlying t = some (.slice e)) (hc : P.cellsOf e = c) (hpos : 0 < c)
    (hval : Value.okWide P w r b0 t v) (hd : DataW.Trod enc P w base spare held t v d ps) :
    ∃ (ao : Option Addr) (len cap : Nat), v = .slice ao len cap ∧ len ≤ maxLen ∧
      ∀ i, i < len → ∃ b off cs n y, ao = some ⟨b, off, none⟩ ∧ cs.length = c ∧ (∀ j, j < c → w.cell? ⟨b, off + i * c + j, none⟩ = cs[j]?) ∧ DataW.trod enc P w base spare held n e cs = some y := by
  subst hc
  obtain ⟨ao, len, cap, rfl⟩ := okWide_slice ht hval
  obtain ⟨fuel, hf⟩ := hd
  simp only [Value.cells] at hf
  rcases open_slice ht hf with ⟨h, _⟩ | ⟨a, len', cap', m, n, D, Pl, h, _, hlc, hm, hmm, _, hx⟩
  · simp only [List.cons.injEq, Value.slice.injEq, and_true] at h
    obtain ⟨rfl, rfl, rfl⟩ := h
    exact ⟨none, 0, 0, rfl, by decide, fun i h => absurd h (by simp)⟩
  · simp only [List.cons.injEq, Value.slice.injEq, and_true] at h
    obtain ⟨rfl, rfl, rfl⟩ := h
    have hle : len ≤ m := by rw [hmm]; split <;> omega
    refine ⟨some a, len, cap, rfl, by omega, fun i hi => ?_⟩
    obtain ⟨cs0, hx0, _⟩ := hx 0 (by omega)
    obtain ⟨b, off, sp⟩ := a
    obtain ⟨_, hl0, hc0⟩ := World.cells?_some hx0
    have hsp : sp = none := by
      have h1 := hc0 0 hpos
      rw [List.getElem?_eq_getElem (by omega)] at h1
      have := World.cell?_spot h1
      simpa [Addr.add] using this
    subst hsp
    obtain ⟨cs, hxi, hyi⟩ := hx i (by omega)
    obtain ⟨_, hl, hcs⟩ := World.cells?_some hxi
    refine ⟨b, off, cs, n, _, rfl, hl, fun j hj => ?_, hyi⟩
    have := hcs j hj
    rwa [add_plain, add_plain] at this

theorem open_strsArg {r : Reach} {b0 : Nat} {t e : TypeId} {v : Value} {d : DataW H} {ps : List MemPlace} (ht : P.underlying t = some (.slice e)) (he : P.underlying e = some .string) (hc : P.cellsOf e = 1)
    (hval : Value.okWide P w r b0 t v) (hd : DataW.Trod enc P w base spare held t v d ps) :
    ∃ (ao : Option Addr) (len cap : Nat), v = .slice ao len cap ∧ len ≤ maxLen ∧
      ∀ i, i < len → ∃ b off S, ao = some ⟨b, off, none⟩ ∧ w.cell? ⟨b, off + i, none⟩ = some (.string S) ∧ S.size ≤ maxLen := by
  obtain ⟨ao, len, cap, rfl, hm, hcell⟩ := open_cellsArg ht hc (by omega) hval hd
  refine ⟨ao, len, cap, rfl, hm, fun i hi => ?_⟩
  obtain ⟨b, off, cs, n, y, e1, hl, hcs, hy⟩ := hcell i hi
  match cs, hl with
  | [c0], _ =>
    obtain ⟨S, rfl, hS⟩ := field_string he hy
    have := hcs 0 (by omega)
    exact ⟨b, off, S, e1, by simpa using this, hS⟩

theorem open_cells3 {t : TypeId} {f0 f1 f2 : Field} {cs : List Value} {m : Nat} {y : DataW H × List MemPlace} (hs : P.underlying t = some (.struct #[f0, f1, f2])) (hone : oneCellFields P #[f0, f1, f2] = true) (hl : cs.length = 3)
    (h : DataW.trod enc P w base spare held m t cs = some y) :
    ∃ (c0 c1 c2 : Value) (y0 y1 y2 : DataW H × List MemPlace) (n : Nat), cs = [c0, c1, c2] ∧
      DataW.trod enc P w base spare held n f0.type [c0] = some y0 ∧ DataW.trod enc P w base spare held n f1.type [c1] = some y1 ∧ DataW.trod enc P w base spare held n f2.type [c2] = some y2 := by
  match cs, hl with
  | [c0, c1, c2], _ =>
    obtain ⟨xs, n, _, _, _, hlen, hg⟩ := DataW.trod_struct hs h
    obtain ⟨o0, k0⟩ := hone_of hone 0 f0 rfl
    obtain ⟨o1, k1⟩ := hone_of hone 1 f1 rfl
    obtain ⟨o2, k2⟩ := hone_of hone 2 f2 rfl
    match xs, hlen with
    | [y0, y1, y2], _ =>
      exact ⟨c0, c1, c2, y0, y1, y2, n, rfl, by simpa [Value.cells, o0, k0] using hg 0 f0 rfl, by simpa [Value.cells, o1, k1] using hg 1 f1 rfl, by simpa [Value.cells, o2, k2] using hg 2 f2 rfl⟩
end
end Go.Proofs.YtmnkekepccdlcaaGreatDoor

namespace Go.Proofs.YtmnkekepccdlcaaGreatDoor
set_option linter.unusedVariables false
set_option linter.unusedSimpArgs false
open Go.ChangeShapes Go.WideShapes Go.ChangeAt Go.RowKit Go.Joins Go.Deep

theorem bd64 {n : Int} (h : (Lit.int .i64 n).wf = true) : i64 n := by
  unfold i64; exact bd_i64 h
/-- All numbers of an event are numbers of the machine. -/
structure EvN (x : Ev) : Prop where
  kind : i64 x.kind
  id : i64 x.id
  n : i64 x.n
  tick : i64 x.tick
  err : i64 x.err
  sT : i64 x.sT
  sA : i64 x.sA
  sW : i64 x.sW
  sR : i64 x.sR
  sN : i64 x.sN
  sS : i64 x.sS
theorem EvN.cut {x : Ev} (h : EvN x) {b : ByteArray} (hb : b.size ≤ 20000) : Ev64 { x with bytes := b } :=
  ⟨h.id, h.n, h.tick, h.err, h.sT, h.sA, h.sW, h.sR, h.sN, h.sS, hb⟩
section
variable {H : Type} {enc : TypeId × Value → H} {w : World} {base : Nat} {spare : Nat → Bool} {held : Bool}
set_option maxRecDepth 100000 in
theorem open_step {cs : List Value} {m : Nat} {y : DataW H × List MemPlace} (h : DataW.trod enc Tryz.prog w base spare held m 25 cs = some y) :
    ∃ s1 s2 s3 s4 s5 s6 : Int, cs = [.int .i64 s1, .int .i64 s2, .int .i64 s3, .int .i64 s4, .int .i64 s5, .int .i64 s6] ∧ i64 s1 ∧ i64 s2 ∧ i64 s3 ∧ i64 s4 ∧ i64 s5 ∧ i64 s6 := by
  have k0 : Tryz.prog.cellsOf 3 = 1 := by kernel_rfl
  have k1 : Tryz.prog.cellsOf 2 = 1 := by kernel_rfl
  have k2 : Tryz.prog.cellsOf 25 = 6 := by kernel_rfl
  obtain ⟨xs, n, _, _, hl, hlen, hg⟩ := DataW.trod_struct Tryz.underlying25 h
  rw [k2] at hl
  match cs, hl with
  | [c0, c1, c2, c3, c4, c5], _ =>
    match xs, hlen with
    | [y0, y1, y2, y3, y4, y5], _ =>
      have h0 : DataW.trod enc Tryz.prog w base spare held n 2 [c0] = some y0 := by simpa [k0, k1] using hg 0 _ rfl
      have h1 : DataW.trod enc Tryz.prog w base spare held n 3 [c1] = some y1 := by simpa [k0, k1] using hg 1 _ rfl
      have h2 : DataW.trod enc Tryz.prog w base spare held n 3 [c2] = some y2 := by simpa [k0, k1] using hg 2 _ rfl
      have h3 : DataW.trod enc Tryz.prog w base spare held n 3 [c3] = some y3 := by simpa [k0, k1] using hg 3 _ rfl
      have h4 : DataW.trod enc Tryz.prog w base spare held n 3 [c4] = some y4 := by simpa [k0, k1] using hg 4 _ rfl
      have h5 : DataW.trod enc Tryz.prog w base spare held n 3 [c5] = some y5 := by simpa [k0, k1] using hg 5 _ rfl
      obtain ⟨a0, rfl, w0⟩ := field_int Tryz.underlying2 h0
      obtain ⟨a1, rfl, w1⟩ := field_int Tryz.underlying3 h1
      obtain ⟨a2, rfl, w2⟩ := field_int Tryz.underlying3 h2
      obtain ⟨a3, rfl, w3⟩ := field_int Tryz.underlying3 h3
      obtain ⟨a4, rfl, w4⟩ := field_int Tryz.underlying3 h4
      obtain ⟨a5, rfl, w5⟩ := field_int Tryz.underlying3 h5
      exact ⟨a0, a1, a2, a3, a4, a5, rfl, bd64 w0, bd64 w1, bd64 w2, bd64 w3, bd64 w4, bd64 w5⟩
set_option maxRecDepth 100000 in
theorem open_event {cs : List Value} {m : Nat} {y : DataW H × List MemPlace} (h : DataW.trod enc Tryz.prog w base spare held m 27 cs = some y) :
    ∃ x : Ev, cs = (evC x).toList ∧ EvN x ∧ x.bytes.size ≤ maxLen := by
  have k0 : Tryz.prog.cellsOf 3 = 1 := by kernel_rfl
  have k1 : Tryz.prog.cellsOf 2 = 1 := by kernel_rfl
  have k2 : Tryz.prog.cellsOf 9 = 1 := by kernel_rfl
  have k3 : Tryz.prog.cellsOf 23 = 1 := by kernel_rfl
  have k4 : Tryz.prog.cellsOf 25 = 6 := by kernel_rfl
  have k5 : Tryz.prog.cellsOf 27 = 12 := by kernel_rfl
  obtain ⟨xs, n, _, _, hl, hlen, hg⟩ := DataW.trod_struct Tryz.underlying27 h
  rw [k5] at hl
  match cs, hl with
  | [c0, c1, c2, c3, c4, c5, c6, c7, c8, c9, c10, c11], _ =>
    match xs, hlen with
    | [y0, y1, y2, y3, y4, y5, y6], _ =>
      have h0 : DataW.trod enc Tryz.prog w base spare held n 3 [c0] = some y0 := by simpa [k0, k1, k2, k3, k4] using hg 0 _ rfl
      have h1 : DataW.trod enc Tryz.prog w base spare held n 3 [c1] = some y1 := by simpa [k0, k1, k2, k3, k4] using hg 1 _ rfl
      have h2 : DataW.trod enc Tryz.prog w base spare held n 3 [c2] = some y2 := by simpa [k0, k1, k2, k3, k4] using hg 2 _ rfl
      have h3 : DataW.trod enc Tryz.prog w base spare held n 2 [c3] = some y3 := by simpa [k0, k1, k2, k3, k4] using hg 3 _ rfl
      have h4 : DataW.trod enc Tryz.prog w base spare held n 9 [c4] = some y4 := by simpa [k0, k1, k2, k3, k4] using hg 4 _ rfl
      have h5 : DataW.trod enc Tryz.prog w base spare held n 23 [c5] = some y5 := by simpa [k0, k1, k2, k3, k4] using hg 5 _ rfl
      have h6 : DataW.trod enc Tryz.prog w base spare held n 25 [c6, c7, c8, c9, c10, c11] = some y6 := by simpa [k0, k1, k2, k3, k4] using hg 6 _ rfl
      obtain ⟨a0, rfl, w0⟩ := field_int Tryz.underlying3 h0
      obtain ⟨a1, rfl, w1⟩ := field_int Tryz.underlying3 h1
      obtain ⟨a2, rfl, w2⟩ := field_int Tryz.underlying3 h2
      obtain ⟨a3, rfl, w3⟩ := field_int Tryz.underlying2 h3
      obtain ⟨a4, rfl, w4⟩ := field_string Tryz.underlying9 h4
      obtain ⟨a5, rfl, w5⟩ := field_int Tryz.underlying23 h5
      obtain ⟨s1, s2, s3, s4, s5, s6, hc, v1, v2, v3, v4, v5, v6⟩ := open_step h6
      cases hc
      exact ⟨⟨a0, a1, a2, a3, a4, a5, s1, s2, s3, s4, s5, s6⟩, rfl, ⟨bd64 w0, bd64 w1, bd64 w2, bd64 w3, bd64 w5, v1, v2, v3, v4, v5, v6⟩, w4⟩
set_option maxRecDepth 100000 in
theorem open_evArg {r : Reach} {b0 : Nat} {v : Value} {d : DataW H} {ps : List MemPlace} (hval : Value.okWide Tryz.prog w r b0 27 v) (hd : DataW.Trod enc Tryz.prog w base spare held 27 v d ps) :
    ∃ x : Ev, v = .agg (evC x) ∧ EvN x ∧ x.bytes.size ≤ maxLen := by
  obtain ⟨cs, rfl, hsz⟩ := okWide_struct Tryz.underlying27 hval
  obtain ⟨fuel, hf⟩ := hd
  obtain ⟨x, hx, h1, h2⟩ := open_event hf
  have : cs = evC x := by
    apply Array.ext'
    simpa [Value.cells] using hx
  exact ⟨x, by rw [this], h1, h2⟩
theorem build_list {α : Type} (p : Nat → α → Prop) : ∀ n, (∀ i, i < n → ∃ x, p i x) → ∃ l : List α, l.length = n ∧ ∀ i (h : i < l.length), p i l[i]
  | 0, _ => ⟨[], rfl, fun i h => absurd h (by simp)⟩
  | n + 1, hp => by
    obtain ⟨l, hl, hl2⟩ := build_list p n (fun i h => hp i (by omega))
    obtain ⟨x, hx⟩ := hp n (by omega)
    refine ⟨l ++ [x], by simp [hl], fun i h => ?_⟩
    by_cases hi : i < l.length
    · rw [List.getElem_append_left hi]; exact hl2 i hi
    · have : i = n := by simp at h; omega
      subst this
      rw [List.getElem_append_right (by omega)]
      simpa [hl] using hx
/-- A slice of events that came in: its cells hold a list of events, and go on holding it. -/
def EIn (w : World) (ao : Option Addr) (l : List Ev) : Prop :=
  ∀ i (h : i < l.length), ∃ b off, ao = some ⟨b, off, none⟩ ∧ b < w.heap.size ∧ ∀ j, j < 12 → w.cell? ⟨b, off + i * 12 + j, none⟩ = (evC l[i])[j]?
set_option maxRecDepth 100000 in
theorem open_evsArg {r : Reach} {b0 : Nat} {v : Value} {d : DataW H} {ps : List MemPlace} (hval : Value.okWide Tryz.prog w r b0 38 v) (hd : DataW.Trod enc Tryz.prog w base spare held 38 v d ps) :
    ∃ (ao : Option Addr) (cap : Nat) (l : List Ev), v = .slice ao l.length cap ∧ l.length ≤ maxLen ∧ EIn w ao l ∧ ∀ x ∈ l, EvN x ∧ x.bytes.size ≤ maxLen := by
  obtain ⟨ao, len, cap, rfl, hm, hcell⟩ := open_cellsArg Tryz.underlying38 (c := 12) (by kernel_rfl) (by omega) hval hd
  obtain ⟨l, rfl, hl⟩ := build_list (fun i (x : Ev) => (EvN x ∧ x.bytes.size ≤ maxLen) ∧ ∃ b off, ao = some ⟨b, off, none⟩ ∧ ∀ j, j < 12 → w.cell? ⟨b, off + i * 12 + j, none⟩ = (evC x)[j]?) len (fun i hi => by
    obtain ⟨b, off, cs, n, y, e1, hl, hcs, hy⟩ := hcell i hi
    obtain ⟨x, rfl, h1, h2⟩ := open_event hy
    exact ⟨x, ⟨h1, h2⟩, b, off, e1, fun j hj => by rw [hcs j hj]; simp⟩)
  refine ⟨ao, cap, l, rfl, hm, fun i hi => ?_, fun x hx => ?_⟩
  · obtain ⟨-, b, off, e1, hc⟩ := hl i hi
    have hlt : b < w.heap.size := World.block_lt_of_cell? w _ (by exact hc 0 (by omega))
    exact ⟨b, off, e1, hlt, hc⟩
  · obtain ⟨i, hi, rfl⟩ := List.mem_iff_getElem.1 hx
    exact (hl i hi).1
end
end Go.Proofs.YtmnkekepccdlcaaGreatDoor

namespace Go.Proofs.YtmnkekepccdlcaaGreatDoor
set_option linter.unusedVariables false
set_option linter.unusedSimpArgs false
open Go.RowKit

/-- Events as a text. -/
def textE (l : List Ev) : List UInt8 := l.flatMap fun x => lineT x ++ [10]
theorem line_10 (x : Ev) : ∀ b ∈ lineT x, b ≠ 10 := by
  have a1 := itoa_10 x.id
  have a2 := itoa_10 x.n
  have a3 := text_10 x.tick
  have a4 := itoa_10 x.err
  have a5 := text_10 x.sT
  have a6 := itoa_10 x.sA
  have a7 : ∀ b ∈ whatT x.sW, b ≠ 10 := word_10 _ (by decide) _
  have a8 := itoa_10 x.sR
  have a9 := itoa_10 x.sN
  have a10 : ∀ b ∈ statT x.sS, b ≠ 10 := word_10 _ (by decide) _
  have a11 := quote_10 x.bytes.data.toList
  unfold lineT evWords
  repeat' split
  all_goals (
    refine joinL_10 _ ?_
    intro y hy
    simp only [List.mem_cons, List.not_mem_nil, or_false] at hy
    rcases hy with rfl | rfl | rfl | rfl | rfl | rfl | rfl | rfl <;> first | assumption | decide)
theorem lines_text : ∀ l : List Ev, linesL (textE l) = l.map lineT ++ [[]]
  | [] => rfl
  | x :: l => by
    have ih := lines_text l
    have e : textE (x :: l) = lineT x ++ 10 :: textE l := by unfold textE; rw [List.flatMap_cons, List.append_assoc]; rfl
    rw [e, linesL_hit (line_10 x), ih]
    rfl
theorem cut_text (l : List Ev) : cutL (linesL (textE l)) = l.map lineT := by
  rw [lines_text]
  unfold cutL
  rw [if_pos (by simp)]
  simp
theorem rd_text : ∀ (k : Nat) (l : List Ev), (∀ x ∈ l, goodT x = true ∧ i64 x.tick ∧ i64 x.sT ∧ i64 x.n) → rdE k (l.map lineT) = .ok l
  | _, [], _ => rfl
  | k, x :: l, h => by
    obtain ⟨h1, h2, h3, h4⟩ := h x (by simp)
    have ih := rd_text (k + 1) l (fun y hy => h y (List.mem_cons_of_mem _ hy))
    rw [← preE_nil (rdE k ((x :: l).map lineT)), List.map_cons, rdE_some [] (parse_line x h1 h2 h3 h4), ih]
    rfl
theorem textE_snoc (l : List Ev) (x : Ev) : textE (l ++ [x]) = textE l ++ lineT x ++ [10] := by unfold textE; simp
/-- Events, somewhat cut. -/
def fewT (l : List Ev) : List Ev := (l.take 8).map fun x => { x with bytes := cutT x.bytes 24 }
theorem line_808 (x : Ev) (h64 : Ev64 x) (hs : x.bytes.size ≤ 24) : (lineT x).length ≤ 808 := by
  have a1 := itoa_21 h64.id
  have a2 := itoa_21 h64.n
  have a3 := text_21 h64.tick
  have a4 := itoa_21 h64.err
  have a5 := text_21 h64.sT
  have a6 := itoa_21 h64.sA
  have a7 : (whatT x.sW).length ≤ 100 := word_100 _ (by decide) _
  have a8 := itoa_21 h64.sR
  have a9 := itoa_21 h64.sN
  have a10 : (statT x.sS).length ≤ 100 := word_100 _ (by decide) _
  have a11 : (quoteT x.bytes.data.toList).length ≤ 100 := by
    unfold quoteT
    have h1 := flat_len x.bytes.data.toList
    have h2 : x.bytes.data.toList.length = x.bytes.size := rfl
    simp only [List.length_cons, List.length_append, List.length_nil]
    omega
  unfold lineT evWords
  repeat' split
  all_goals (
    refine Nat.le_trans (joinL_100 _ ?_) (by simp)
    intro y hy
    simp only [List.mem_cons, List.not_mem_nil, or_false] at hy
    rcases hy with rfl | rfl | rfl | rfl | rfl | rfl | rfl | rfl <;> first | omega | (simp; done))
theorem textE_len : ∀ (l : List Ev), (∀ x ∈ l, Ev64 x ∧ x.bytes.size ≤ 24) → (textE l).length ≤ l.length * 809
  | [], _ => by simp [textE]
  | x :: l, h => by
    have h1 := line_808 x (h x (by simp)).1 (h x (by simp)).2
    have ih := textE_len l (fun y hy => h y (List.mem_cons_of_mem _ hy))
    unfold textE at ih ⊢
    rw [List.flatMap_cons, List.length_append, List.length_append, List.length_cons]
    simp only [List.length_cons, List.length_nil]
    omega
end Go.Proofs.YtmnkekepccdlcaaGreatDoor

namespace Go.Proofs.YtmnkekepccdlcaaGreatDoor
set_option linter.unusedVariables false
set_option linter.unusedSimpArgs false
open Go.RowKit

theorem ein_at {w : World} {ao : Option Addr} {l : List Ev} (h : EIn w ao l) (i : Nat) (hi : i < l.length) :
    ∃ b off, ao = some ⟨b, off, none⟩ ∧ b < w.heap.size ∧ ∀ w', Below w.heap.size w w' → w'.cell? ⟨b, off + i * 12, none⟩ = some (.int .i64 l[i].kind) ∧ w'.cell? ⟨b, off + i * 12 + 1, none⟩ = some (.int .i64 l[i].id) ∧ w'.cell? ⟨b, off + i * 12 + 2, none⟩ = some (.int .i64 l[i].n) ∧ w'.cell? ⟨b, off + i * 12 + 3, none⟩ = some (.int .i64 l[i].tick) ∧ w'.cell? ⟨b, off + i * 12 + 4, none⟩ = some (.string l[i].bytes) ∧ w'.cell? ⟨b, off + i * 12 + 5, none⟩ = some (.int .i64 l[i].err) ∧ w'.cell? ⟨b, off + i * 12 + 6, none⟩ = some (.int .i64 l[i].sT) ∧ w'.cell? ⟨b, off + i * 12 + 7, none⟩ = some (.int .i64 l[i].sA) ∧ w'.cell? ⟨b, off + i * 12 + 8, none⟩ = some (.int .i64 l[i].sW) ∧ w'.cell? ⟨b, off + i * 12 + 9, none⟩ = some (.int .i64 l[i].sR) ∧ w'.cell? ⟨b, off + i * 12 + 10, none⟩ = some (.int .i64 l[i].sN) ∧ w'.cell? ⟨b, off + i * 12 + 11, none⟩ = some (.int .i64 l[i].sS) := by
  obtain ⟨b, off, e1, hb, h0⟩ := h i hi
  refine ⟨b, off, e1, hb, fun w' hw => ?_⟩
  have key : ∀ j, j < 12 → w'.cell? ⟨b, off + i * 12 + j, none⟩ = (evC l[i])[j]? := fun j hj => (hw.cell (p := ⟨b, off + i * 12 + j, none⟩) hb).trans (h0 j hj)
  exact ⟨key 0 (by decide), key 1 (by decide), key 2 (by decide), key 3 (by decide), key 4 (by decide), key 5 (by decide), key 6 (by decide), key 7 (by decide), key 8 (by decide), key 9 (by decide), key 10 (by decide), key 11 (by decide)⟩
def cutE (x : Ev) : Ev := { x with bytes := cutT x.bytes 24 }
theorem fewT_eq (l : List Ev) : fewT l = (l.map cutE).take 8 := by unfold fewT; rw [List.map_take]; rfl
theorem take_snocE (l : List Ev) (k : Nat) (h : k < l.length) : (l.map cutE).take (k + 1) = (l.map cutE).take k ++ [cutE l[k]] := by
  rw [← List.map_take, ← List.map_take, List.take_succ_eq_append_getElem h, List.map_append]; rfl

set_option maxHeartbeats 4000000 in
set_option maxRecDepth 100000 in
theorem xFew (l : List Ev) (ao : Option Addr) (cap : Nat) (w : World) (hin : EIn w ao l) (hl : l.length ≤ maxLen) :
    Calls Tryz.prog 22 #[.slice ao l.length cap, .int .i64 8] w fun e w' => ∃ ao' cap', e = .returned (.slice ao' (fewT l).length cap') ∧ OEv w.heap.size w' ao' cap' (fewT l) ∧ Below w.heap.size w w' := by
  unfold maxLen at hl
  have HIN := Lib.hid (fun i hi => ein_at hin i hi)
  have hob0 := Lib.hid (orow_empty 27 12 w.heap.size w (Nat.le_refl _))
  have hb0 : Below w.heap.size w (w.alloc (.cells #[] 27)) := (Below.refl _ _).alloc (Nat.le_refl _) _
  clear hin
  go_enter Tryz.func22, Tryz.ntmps22
  go_wp2_with fail
  go_loopw [5, 6] (fun ov iv wr => ∃ (k : Nat) (ao' : Option Addr) (cap' : Nat), iv = .int .i64 k ∧ k ≤ l.length ∧ k ≤ 8 ∧ ov = .slice ao' k cap' ∧ Hid (ORow 27 12 w.heap.size wr (.slice ao' k cap') k (evsCells ((l.map cutE).take k))) ∧ Below w.heap.size w wr) (fun _ iv _ => l.length - (intOf iv).toNat)
  case atStart => exact ⟨0, _, _, rfl, Nat.zero_le _, Nat.zero_le _, rfl, hob0, hb0⟩
  case round =>
    obtain ⟨k, ao', cap', rfl, hk, hk8, rfl, hos, hbw⟩ := hrel
    clear hob0 hb0
    have e0 : (0 : Int) ≤ (k : Int) := by omega
    have hm : k ≤ 1000000 := by omega
    by_cases hlt : k < l.length
    · have e1 : (k : Int) < (l.length : Int) := by omega
      by_cases h8 : k < 8
      · have e2 : (k : Int) < 8 := by omega
        obtain ⟨b, off, rfl, hbl, d0⟩ := HIN.out k hlt
        have d := d0 wr hbw
        have HT := Lib.hid (take_snocE l k hlt)
        generalize l[k] = x at *
        clear d0
        go_wp2_with fail
        refine (xCut _ 24 _).mono ?_; rintro e wz ⟨rfl, rfl⟩
        have hos2 := hos.out
        clear hos
        go_wp2_with (at_builtin; refine wpList_append_elem infoEv rfl (by decide) (by decide) Tryz.underlying38 _ rfl _ _ rfl w.heap.size _ _ _ rfl (World.ownsRow.alloc (World.ownsRow.alloc hos2 _) _) (wr.heap.size + 1) rfl [.int .i64 x.kind, .int .i64 x.id, .int .i64 x.n, .int .i64 x.tick, .string (cutT x.bytes 24), .int .i64 x.err, .int .i64 x.sT, .int .i64 x.sA, .int .i64 x.sW, .int .i64 x.sR, .int .i64 x.sN, .int .i64 x.sS] rfl ?ta1 ?ta2 hm ?ta3 ?ta4)
        case ta1 =>
          have kq : Blk ((wr.alloc (.cells #[.int .i64 x.kind, .int .i64 x.id, .int .i64 x.n, .int .i64 x.tick, .string (cutT x.bytes 24), .int .i64 x.err, .int .i64 x.sT, .int .i64 x.sA, .int .i64 x.sW, .int .i64 x.sR, .int .i64 x.sN, .int .i64 x.sS] 27)).alloc (.cells #[.int .i64 x.kind, .int .i64 x.id, .int .i64 x.n, .int .i64 x.tick, .string (cutT x.bytes 24), .int .i64 x.err, .int .i64 x.sT, .int .i64 x.sA, .int .i64 x.sW, .int .i64 x.sR, .int .i64 x.sN, .int .i64 x.sS] 27)) (wr.heap.size + 1) 27 #[.int .i64 x.kind, .int .i64 x.id, .int .i64 x.n, .int .i64 x.tick, .string (cutT x.bytes 24), .int .i64 x.err, .int .i64 x.sT, .int .i64 x.sA, .int .i64 x.sW, .int .i64 x.sR, .int .i64 x.sN, .int .i64 x.sS] := by simpa using Blk.new (wr.alloc (.cells #[.int .i64 x.kind, .int .i64 x.id, .int .i64 x.n, .int .i64 x.tick, .string (cutT x.bytes 24), .int .i64 x.err, .int .i64 x.sT, .int .i64 x.sA, .int .i64 x.sW, .int .i64 x.sR, .int .i64 x.sN, .int .i64 x.sS] 27)) 27 #[.int .i64 x.kind, .int .i64 x.id, .int .i64 x.n, .int .i64 x.tick, .string (cutT x.bytes 24), .int .i64 x.err, .int .i64 x.sT, .int .i64 x.sA, .int .i64 x.sW, .int .i64 x.sR, .int .i64 x.sN, .int .i64 x.sS]
          intro j u hj
          exact (kq.cell j).trans (by simpa using hj)
        case ta2 => intro u hu; simp at hu; rcases hu with rfl | rfl | rfl | rfl | rfl | rfl | rfl | rfl | rfl | rfl | rfl | rfl <;> rfl
        case ta3 => have := hbw.size; simp; omega
        case ta4 =>
          intro ao2 cap2 w7 g3 g4
          have hbw5 : Below w.heap.size w w7 := orow_below (World.ownsRow.alloc (World.ownsRow.alloc hos2 _) _) ((hbw.alloc hbw.size _).alloc (by have := hbw.size; simp; omega) _) g4 (Nat.le_refl _)
          have hos3 : ORow 27 12 w.heap.size w7 (.slice ao2 (k + 1) cap2) (k + 1) (evsCells ((l.map cutE).take (k + 1))) := by
            rw [HT.out, evsCells_snoc]
            exact g3
          have HOS := Lib.hid hos3
          clear g3 g4 hos2 hos3 hbw d
          go_wp2_with fail
          go_roundw
          case rel => exact ⟨k + 1, ao2, cap2, by go_num, by omega, by omega, rfl, HOS, hbw5⟩
          case measure => simp [intOf]; omega
      · have e2 : ¬ (k : Int) < 8 := by omega
        have hf : (fewT l).length = k := by rw [fewT_eq, List.length_take, List.length_map]; omega
        have hkk : k = 8 := by omega
        have HF := Lib.hid hf
        have HK := Lib.hid hkk
        clear hf hkk
        go_wp2_with fail
        go_ret
        exact ⟨ao', cap', by rw [HF.out]; rfl, by unfold OEv; rw [HF.out, fewT_eq, ← HK.out]; exact hos.out, hbw⟩
    · have e1 : ¬ (k : Int) < (l.length : Int) := by omega
      have hf : (fewT l).length = k := by rw [fewT_eq, List.length_take, List.length_map]; omega
      have hkk : (l.map cutE).take k = (l.map cutE).take 8 := by rw [List.take_of_length_le (by rw [List.length_map]; omega), List.take_of_length_le (by rw [List.length_map]; omega)]
      have HF := Lib.hid hf
      have HK := Lib.hid hkk
      clear hf hkk
      go_wp2_with fail
      go_ret
      exact ⟨ao', cap', by rw [HF.out]; rfl, by unfold OEv; rw [HF.out, fewT_eq, ← HK.out]; exact hos.out, hbw⟩
end Go.Proofs.YtmnkekepccdlcaaGreatDoor

namespace Go.Proofs.YtmnkekepccdlcaaGreatDoor
set_option linter.unusedVariables false
set_option linter.unusedSimpArgs false
open Go.RowKit

theorem bld_below {B b : Nat} {l : List UInt8} {w w' : World} (h : Bld B b l w) (hb : Below w.heap.size w w') : Bld B b l w' := by
  have hg : w.grownBy w' none := ⟨hb.os, hb.tape, hb.output, hb.size, fun k hk _ => hb.block k hk⟩
  rcases h with ⟨h1, v, h2, h3, h4⟩ | ⟨h1, v, h2, h3, h4⟩
  · exact .inl ⟨h1, v, (hb.block b (Array.getElem?_eq_some_iff.1 h2).1).trans h2, h3.kept hg (Classical.em _), h4⟩
  · exact .inr ⟨h1, v, (hb.block b (Array.getElem?_eq_some_iff.1 h2).1).trans h2, h3.kept hg (Classical.em _), h4⟩
set_option maxHeartbeats 4000000 in
set_option maxRecDepth 100000 in
theorem xWrite (l : List Ev) (ao : Option Addr) (cap B : Nat) (w : World) (hin : OEv B w ao cap l) (hl : l.length ≤ 8) (h64 : ∀ x ∈ l, Ev64 x ∧ x.bytes.size ≤ 24) (hp : Pow w) :
    Calls Tryz.prog 23 #[.slice ao l.length cap] w fun e w' => e = .returned (.tuple #[.string ⟨(if l.all goodT = true then textE l else []).toArray⟩, .int .i64 (if l.all goodT = true then 0 else 2)]) ∧ Below w.heap.size w w' := by
  have HIN := Lib.hid (fun i hi => oev_at hin i hi)
  have HP := Lib.hid hp
  have H64 := Lib.hid h64
  have i0 := bNew w
  have hb0 : Below w.heap.size w (w.alloc (.cells #[.pointer none, .slice none 0 0] 75)) := (Below.refl _ _).alloc (Nat.le_refl _) _
  obtain ⟨w0, hw0⟩ : ∃ w0, w.alloc (.cells #[.pointer none, .slice none 0 0] 75) = w0 := ⟨_, rfl⟩
  rw [hw0] at i0 hb0
  have HW := Lib.hid hw0
  have I0 := Lib.hid i0
  clear hin hp h64 hw0 i0
  obtain ⟨S, hS⟩ : ∃ S, (if l.all goodT = true then textE l else []) = S := ⟨_, rfl⟩
  obtain ⟨M, hM⟩ : ∃ M : Int, (if l.all goodT = true then 0 else 2) = M := ⟨_, rfl⟩
  rw [hS, hM]
  have HSM := Lib.hid (And.intro hS hM)
  clear hS hM
  go_enter Tryz.func23, Tryz.ntmps23
  go_wp2_with fail
  rw [HW.out]
  generalize hB : w.heap.size = B0 at *
  have hBs : B0 ≤ w.heap.size := Nat.le_of_eq hB.symm
  have HB := Lib.hid hB
  clear hB
  go_loopw [9] (fun iv wr => ∃ (k : Nat), iv = .int .i64 k ∧ k ≤ l.length ∧ Hid ((l.take k).all goodT = true) ∧ Hid (Bld B0 B0 (textE (l.take k)) wr) ∧ Below B0 w wr) (fun iv _ => l.length - (intOf iv).toNat)
  case atStart => exact ⟨0, rfl, Nat.zero_le _, Lib.hid rfl, I0, hb0⟩
  case round =>
    obtain ⟨k, rfl, hk, hg, hbd, hbw⟩ := hrel
    clear I0 hb0
    have e0 : (0 : Int) ≤ (k : Int) := by omega
    by_cases hlt : k < l.length
    · have e1 : (k : Int) < (l.length : Int) := by omega
      obtain ⟨g, rfl, hgl, d0⟩ := HIN.out k hlt
      have d := d0 wr (by first | exact hbw | (rw [HB.out]; exact hbw))
      have hT : l.take (k + 1) = l.take k ++ [l[k]] := List.take_succ_eq_append_getElem hlt
      have hsz := textE_len (l.take k) (fun x hx => H64.out x (List.mem_of_mem_take hx))
      have hll : (l.take k).length ≤ k := List.length_take_le _ _
      have hx := H64.out l[k] (List.getElem_mem hlt)
      have hmem := List.getElem_mem hlt
      generalize l[k] = x at *
      have hln := line_808 x hx.1 hx.2
      obtain ⟨w1, hw1⟩ : ∃ w1, wr.alloc (.cells #[.int .i64 x.kind, .int .i64 x.id, .int .i64 x.n, .int .i64 x.tick, .string x.bytes, .int .i64 x.err, .int .i64 x.sT, .int .i64 x.sA, .int .i64 x.sW, .int .i64 x.sR, .int .i64 x.sN, .int .i64 x.sS] 27) = w1 := ⟨_, rfl⟩
      have k1 : Blk w1 wr.heap.size 27 #[.int .i64 x.kind, .int .i64 x.id, .int .i64 x.n, .int .i64 x.tick, .string x.bytes, .int .i64 x.err, .int .i64 x.sT, .int .i64 x.sA, .int .i64 x.sW, .int .i64 x.sR, .int .i64 x.sN, .int .i64 x.sS] := by rw [← hw1]; exact Blk.new _ _ _
      have hb1 : Below B0 w w1 := by rw [← hw1]; exact hbw.alloc (Nat.le_trans hBs hbw.size) _
      have bd1 : Bld B0 B0 (textE (l.take k)) w1 := by rw [← hw1]; exact Lib.IsBuilderF.alloc hbd.out _
      have GG : Hid (∀ w', Calls Tryz.prog 44 #[.agg #[.int .i64 x.kind, .int .i64 x.id, .int .i64 x.n, .int .i64 x.tick, .string x.bytes, .int .i64 x.err, .int .i64 x.sT, .int .i64 x.sA, .int .i64 x.sW, .int .i64 x.sR, .int .i64 x.sN, .int .i64 x.sS]] w' fun e w'' => e = .returned (.bool (goodT x)) ∧ Below w'.heap.size w' w'') := Lib.hid fun w' => lGood x w' (Nat.le_trans hx.1.bytes (by decide))
      have HW1 := Lib.hid hw1
      obtain ⟨q1, hq1⟩ : ∃ q, wr.heap.size = q := ⟨_, rfl⟩
      have HQ := Lib.hid hq1
      rw [hq1] at k1
      have K1 := Lib.hid k1
      have BD1 := Lib.hid bd1
      have HX := Lib.hid hx
      have HT := Lib.hid hT
      have HG := Lib.hid hmem
      clear hw1 hq1 d0 hbd hbw hgl k1 bd1 hx hT hmem
      go_upto_region 5 with fail
      rw [HW1.out, HQ.out]
      have d1 := K1.out.at12
      have hr := Below.refl w1.heap.size w1
      clear d
      cases hgx : goodT x
      all_goals (rw [hgx] at GG)
      · go_wp2_with fail
        refine (GG.out _).mono ?_; rintro e w2 ⟨rfl, hb2⟩
        have HA : Hid (l.all goodT = false) := Lib.hid (by
          cases ha : l.all goodT with
          | false => rfl
          | true => exact absurd (List.all_eq_true.1 ha x HG.out) (by rw [hgx]; decide))
        clear hgx
        go_wp2_with fail
        go_ret2
        have hbz := hb1.up hb2 hBs
        rw [← HB.out] at hbz
        have z1 : S = [] := by rw [← HSM.out.1, HA.out]; rfl
        have z2 : M = 2 := by rw [← HSM.out.2, HA.out]; rfl
        subst z1 z2
        exact ⟨rfl, hbz⟩
      · have GL : Hid (∀ w', Pow w' → Calls Tryz.prog 45 #[.agg #[.int .i64 x.kind, .int .i64 x.id, .int .i64 x.n, .int .i64 x.tick, .string x.bytes, .int .i64 x.err, .int .i64 x.sT, .int .i64 x.sA, .int .i64 x.sW, .int .i64 x.sR, .int .i64 x.sN, .int .i64 x.sS]] w' fun e w'' => e = .returned (.string ⟨(lineT x).toArray⟩) ∧ Below w'.heap.size w' w'') := Lib.hid fun w' hp' => lLine x w' hgx HX.out.1 hp'
        have HG1 : Hid ((l.take (k + 1)).all goodT = true) := Lib.hid (by rw [HT.out, List.all_append, hg.out, List.all_cons, hgx]; rfl)
        clear hgx hg
        go_wp2_with fail
        refine (GG.out _).mono ?_; rintro e w2 ⟨rfl, hb2⟩
        have HB2 := Lib.hid (hb1.up hb2 hBs)
        have K2 := Lib.hid (K1.out.later hb2)
        have BD2 := Lib.hid (bld_below BD1.out hb2)
        clear d1 hr hb2 hb1
        have d1 := K2.out.at12
        have hr := Below.refl w2.heap.size w2
        go_wp2_with fail
        refine (GL.out _ (pow_later HP.out (by rw [HB.out]; exact HB2.out))).mono ?_; rintro e w3 ⟨rfl, hb3⟩
        have HB3 := Lib.hid (HB2.out.up hb3 hBs)
        have BD3 := bld_below BD2.out hb3
        clear d1 hr hb3
        go_wp2_with fail
        refine (bStr B0 B0 _ ⟨(lineT x).toArray⟩ w3 BD3 (by show _ + (lineT x).length ≤ _; omega) (Nat.le_trans hBs HB3.out.size)).mono ?_; rintro e w4 ⟨rfl, k4, b4⟩
        have HB4 := Lib.hid (HB3.out.trans b4)
        clear b4 BD3
        go_wp2_with fail
        refine (bByteN B0 B0 _ _ 10 w4 k4 (by rw [List.length_append]; show _ + (lineT x).length ≤ _; omega) (Nat.le_trans hBs HB4.out.size) rfl).mono ?_; rintro e w5 ⟨rfl, k5, b5⟩
        have HB5 := HB4.out.trans b5
        have K5 : Hid (Bld B0 B0 (textE (l.take (k + 1))) w5) := Lib.hid (by rw [HT.out, textE_snoc]; exact k5)
        clear b5 k4 k5
        go_wp2_with fail
        go_roundw
        case rel => exact ⟨k + 1, by go_num, by omega, HG1, K5, HB5⟩
        case measure => simp [intOf]; omega
    · obtain rfl : k = l.length := by omega
      have e1 : ¬ ((l.length : Int) < (l.length : Int)) := by omega
      have hbd2 := hbd.out
      have hg2 := hg.out
      rw [List.take_length] at hbd2 hg2
      have HG2 := Lib.hid hg2
      clear hbd hg hg2
      go_wp2_with fail
      refine (bText _ _ _ _ hbd2 (Nat.le_trans hBs hbw.size)).mono ?_; rintro e w4 ⟨rfl, b5⟩
      have b6 := hbw.trans b5
      go_wp2_with fail
      go_ret2
      rw [← HB.out] at b6
      have z1 : S = textE l := by rw [← HSM.out.1, HG2.out]; rfl
      have z2 : M = 0 := by rw [← HSM.out.2, HG2.out]; rfl
      subst z1 z2
      exact ⟨rfl, b6⟩
end Go.Proofs.YtmnkekepccdlcaaGreatDoor

namespace Go.Proofs.YtmnkekepccdlcaaGreatDoor
set_option linter.unusedVariables false
set_option linter.unusedSimpArgs false
open Go.RowKit

set_option maxHeartbeats 8000000 in
set_option maxRecDepth 100000 in
theorem logWrites_ok (l : List Ev) (ao : Option Addr) (cap : Nat) (w : World) (hin : EIn w ao l) (hl : l.length ≤ maxLen) (hN : ∀ x ∈ l, EvN x) (he : EnvL w) (hga : (fewT l).all goodT = true) :
    Calls Tryz.prog 5 #[.slice ao l.length cap] w fun e w' => e = .returned (.bool true) ∧ Below w.heap.size w w' := by
  have HE := Lib.hid he
  have HLV := Lib.hid (fun w' he' => lLives w' he')
  have F1 := Lib.hid (xFew l ao cap w hin hl)
  have hF8 : (fewT l).length ≤ 8 := by rw [fewT_eq]; exact List.length_take_le _ _
  have hF64 : ∀ x ∈ fewT l, Ev64 x ∧ x.bytes.size ≤ 24 := by
    intro x hx
    rw [fewT_eq] at hx
    obtain ⟨y, hy, rfl⟩ := List.mem_map.1 (List.mem_of_mem_take hx)
    exact ⟨(hN y hy).cut (Nat.le_trans (cutT_size _ _) (by decide)), cutT_size _ _⟩
  generalize fewT l = FW at *
  have H64 := Lib.hid hF64
  clear hin hl hN he hF64
  have HGA := Lib.hid hga
  clear hga
  go_enter Tryz.func5, Tryz.ntmps5
  go_wp2_with fail
  refine F1.out.mono ?_; rintro e w1 ⟨ao1, cap1, rfl, ho, hb1⟩
  have F2 := xWrite FW ao1 cap1 _ w1 ho hF8 H64.out (pow_later HE.out.pow hb1)
  rw [HGA.out] at F2
  have F2H := Lib.hid F2
  have HO := Lib.hid ho
  have HB1 := Lib.hid hb1
  clear F1 F2 ho hb1
  go_wp2_with fail
  refine F2H.out.mono ?_; rintro e w2 ⟨rfl, hb2⟩
  have HO2 := Lib.hid (oev_later HO.out hb2)
  have HIN := Lib.hid (fun i hi => oev_at HO2.out i hi)
  have HB2 := Lib.hid (HB1.out.up hb2)
  have hbr := Below.refl w2.heap.size w2
  clear hb2 F2H
  go_wp2_with fail
  go_loopw [5, 6] (fun sv iv wr => ∃ (k : Nat), iv = .int .i64 k ∧ k ≤ FW.length ∧ sv = .string ⟨(textE (FW.take k)).toArray⟩ ∧ Hid ((FW.take k).all goodT = true) ∧ Below w2.heap.size w2 wr) (fun _ iv _ => FW.length - (intOf iv).toNat)
  case atStart => exact ⟨0, rfl, Nat.zero_le _, rfl, Lib.hid rfl, hbr⟩
  case round =>
    obtain ⟨k, rfl, hk, rfl, hg, hbw⟩ := hrel
    clear hbr
    have e0 : (0 : Int) ≤ (k : Int) := by omega
    by_cases hlt : k < FW.length
    · have e1 : (k : Int) < (FW.length : Int) := by omega
      obtain ⟨g, rfl, hgl, d0⟩ := HIN.out k hlt
      have d := d0 wr hbw
      have hT : FW.take (k + 1) = FW.take k ++ [FW[k]] := List.take_succ_eq_append_getElem hlt
      have hx := H64.out FW[k] (List.getElem_mem hlt)
      have hmem := List.getElem_mem hlt
      generalize FW[k] = x at *
      have HT := Lib.hid hT
      have HG := Lib.hid hmem
      have HX := Lib.hid hx
      have GR : Hid (∀ w', Calls Tryz.prog 14 #[.agg #[.int .i64 x.kind, .int .i64 x.id, .int .i64 x.n, .int .i64 x.tick, .string x.bytes, .int .i64 x.err, .int .i64 x.sT, .int .i64 x.sA, .int .i64 x.sW, .int .i64 x.sR, .int .i64 x.sN, .int .i64 x.sS]] w' fun e w'' => e = .returned (.bool (goodT x)) ∧ Below w'.heap.size w' w'') := Lib.hid fun w' => rGoodAll x w' hx.1 (Nat.le_trans hx.2 (by decide))
      clear hT hmem hx d0 hgl
      have hgx : goodT x = true := List.all_eq_true.1 HGA.out x HG.out
      rw [hgx] at GR
      have GP : Hid (∀ w', Calls Tryz.prog 15 #[.agg #[.int .i64 x.kind, .int .i64 x.id, .int .i64 x.n, .int .i64 x.tick, .string x.bytes, .int .i64 x.err, .int .i64 x.sT, .int .i64 x.sA, .int .i64 x.sW, .int .i64 x.sR, .int .i64 x.sN, .int .i64 x.sS]] w' fun e w'' => e = .returned (.string ⟨(lineT x).toArray⟩) ∧ Below w'.heap.size w' w'') := Lib.hid fun w' => rPrintT x w' hgx HX.out.1
      have HG1 : Hid ((FW.take (k + 1)).all goodT = true) := Lib.hid (by rw [HT.out, List.all_append, hg.out, List.all_cons, hgx]; rfl)
      have hsz : (textE (FW.take k)).length ≤ 6472 := by
        have h1 := textE_len (FW.take k) (fun x hx => H64.out x (List.mem_of_mem_take hx))
        have h2 : (FW.take k).length ≤ k := List.length_take_le _ _
        omega
      have hln := line_808 x HX.out.1 HX.out.2
      have HS : Hid ((⟨(textE (FW.take k)).toArray⟩ : ByteArray) ++ ⟨(lineT x).toArray⟩ ++ ⟨#[10]⟩ = ⟨(textE (FW.take (k + 1))).toArray⟩) := Lib.hid (by
        rw [HT.out, textE_snoc, bt_app]
        exact bt_app _ [10])
      clear hgx hg
      go_wp2_with fail
      refine (GR.out _).mono ?_; rintro e w3 ⟨rfl, hb3⟩
      have hbw3 := hbw.up hb3
      obtain ⟨hc, hf⟩ := bcell hb3
      have d3 : w3.cell? ⟨g, k * 12, none⟩ = some (.int .i64 x.kind) ∧ w3.cell? ⟨g, k * 12 + 1, none⟩ = some (.int .i64 x.id) ∧ w3.cell? ⟨g, k * 12 + 2, none⟩ = some (.int .i64 x.n) ∧ w3.cell? ⟨g, k * 12 + 3, none⟩ = some (.int .i64 x.tick) ∧ w3.cell? ⟨g, k * 12 + 4, none⟩ = some (.string x.bytes) ∧ w3.cell? ⟨g, k * 12 + 5, none⟩ = some (.int .i64 x.err) ∧ w3.cell? ⟨g, k * 12 + 6, none⟩ = some (.int .i64 x.sT) ∧ w3.cell? ⟨g, k * 12 + 7, none⟩ = some (.int .i64 x.sA) ∧ w3.cell? ⟨g, k * 12 + 8, none⟩ = some (.int .i64 x.sW) ∧ w3.cell? ⟨g, k * 12 + 9, none⟩ = some (.int .i64 x.sR) ∧ w3.cell? ⟨g, k * 12 + 10, none⟩ = some (.int .i64 x.sN) ∧ w3.cell? ⟨g, k * 12 + 11, none⟩ = some (.int .i64 x.sS) := ⟨(hb3.cell (p := ⟨g, k * 12, none⟩) (block_lt d.1)).trans d.1, (hb3.cell (p := ⟨g, k * 12 + 1, none⟩) (block_lt d.2.1)).trans d.2.1, (hb3.cell (p := ⟨g, k * 12 + 2, none⟩) (block_lt d.2.2.1)).trans d.2.2.1, (hb3.cell (p := ⟨g, k * 12 + 3, none⟩) (block_lt d.2.2.2.1)).trans d.2.2.2.1, (hb3.cell (p := ⟨g, k * 12 + 4, none⟩) (block_lt d.2.2.2.2.1)).trans d.2.2.2.2.1, (hb3.cell (p := ⟨g, k * 12 + 5, none⟩) (block_lt d.2.2.2.2.2.1)).trans d.2.2.2.2.2.1, (hb3.cell (p := ⟨g, k * 12 + 6, none⟩) (block_lt d.2.2.2.2.2.2.1)).trans d.2.2.2.2.2.2.1, (hb3.cell (p := ⟨g, k * 12 + 7, none⟩) (block_lt d.2.2.2.2.2.2.2.1)).trans d.2.2.2.2.2.2.2.1, (hb3.cell (p := ⟨g, k * 12 + 8, none⟩) (block_lt d.2.2.2.2.2.2.2.2.1)).trans d.2.2.2.2.2.2.2.2.1, (hb3.cell (p := ⟨g, k * 12 + 9, none⟩) (block_lt d.2.2.2.2.2.2.2.2.2.1)).trans d.2.2.2.2.2.2.2.2.2.1, (hb3.cell (p := ⟨g, k * 12 + 10, none⟩) (block_lt d.2.2.2.2.2.2.2.2.2.2.1)).trans d.2.2.2.2.2.2.2.2.2.2.1, (hb3.cell (p := ⟨g, k * 12 + 11, none⟩) (block_lt d.2.2.2.2.2.2.2.2.2.2.2)).trans d.2.2.2.2.2.2.2.2.2.2.2⟩
      clear hc hf d hb3 hbw
      go_wp2_with fail
      refine (GP.out _).mono ?_; rintro e w4 ⟨rfl, hb4⟩
      have hbw4 := hbw3.up hb4
      clear hb4 hbw3 d3
      go_wp2_with fail
      go_roundw
      case rel => exact ⟨k + 1, by go_num, by omega, by rw [HS.out], HG1, hbw4⟩
      case measure => simp [intOf]; omega
    · obtain rfl : k = FW.length := by omega
      have e1 : ¬ ((FW.length : Int) < (FW.length : Int)) := by omega
      have hR : rdE 0 (cutL (linesL (⟨(textE FW).toArray⟩ : ByteArray).data.toList)) = .ok FW := by
        show rdE 0 (cutL (linesL (textE FW))) = _
        rw [cut_text]
        exact rd_text 0 FW (fun x hx => ⟨List.all_eq_true.1 HGA.out x hx, (H64.out x hx).1.tick, (H64.out x hx).1.sT, (H64.out x hx).1.n⟩)
      have hsz : (textE FW).length ≤ 6472 := by
        have h1 := textE_len FW H64.out
        omega
      have HR := lRead ⟨(textE FW).toArray⟩ wr (by show (textE FW).length ≤ _; omega) (HE.out.later (HB2.out.up hbw))
      rw [hR] at HR
      have HRH := Lib.hid HR
      rw [List.take_length]
      clear hR HR hg
      go_wp2_with fail
      refine HRH.out.mono ?_; rintro e w5 ⟨ao5, cap5, rfl, ho5, hb5⟩
      have HB5 := Lib.hid ((HB2.out.up hbw).up hb5)
      have FS := Lib.hid (sSame FW ao5 ao1 cap5 cap1 _ _ w5 ho5 (oev_later (oev_later HO2.out hbw) hb5) (by omega))
      clear ho5 hb5
      go_wp2_with fail
      refine FS.out.mono ?_; rintro e w6 ⟨rfl, hb6⟩
      have HB6 := Lib.hid (HB5.out.up hb6)
      clear hb6
      go_wp2_with fail
      refine (HLV.out _ (HE.out.later HB6.out)).mono ?_; rintro e w7 ⟨rfl, hb7⟩
      go_wp2_with fail
      go_ret
      exact ⟨rfl, HB6.out.up hb7⟩
set_option maxHeartbeats 8000000 in
set_option maxRecDepth 100000 in
theorem logWrites_no (l : List Ev) (ao : Option Addr) (cap : Nat) (w : World) (hin : EIn w ao l) (hl : l.length ≤ maxLen) (hN : ∀ x ∈ l, EvN x) (he : EnvL w) (hga : (fewT l).all goodT = false) :
    Calls Tryz.prog 5 #[.slice ao l.length cap] w fun e w' => e = .returned (.bool true) ∧ Below w.heap.size w w' := by
  have HE := Lib.hid he
  have HLV := Lib.hid (fun w' he' => lLives w' he')
  have F1 := Lib.hid (xFew l ao cap w hin hl)
  have hF8 : (fewT l).length ≤ 8 := by rw [fewT_eq]; exact List.length_take_le _ _
  have hF64 : ∀ x ∈ fewT l, Ev64 x ∧ x.bytes.size ≤ 24 := by
    intro x hx
    rw [fewT_eq] at hx
    obtain ⟨y, hy, rfl⟩ := List.mem_map.1 (List.mem_of_mem_take hx)
    exact ⟨(hN y hy).cut (Nat.le_trans (cutT_size _ _) (by decide)), cutT_size _ _⟩
  generalize fewT l = FW at *
  have H64 := Lib.hid hF64
  clear hin hl hN he hF64
  have HGA := Lib.hid hga
  clear hga
  go_enter Tryz.func5, Tryz.ntmps5
  go_wp2_with fail
  refine F1.out.mono ?_; rintro e w1 ⟨ao1, cap1, rfl, ho, hb1⟩
  have F2 := xWrite FW ao1 cap1 _ w1 ho hF8 H64.out (pow_later HE.out.pow hb1)
  rw [HGA.out] at F2
  simp only [Bool.false_eq_true, if_false] at F2
  have F2H := Lib.hid F2
  have HO := Lib.hid ho
  have HB1 := Lib.hid hb1
  clear F1 F2 ho hb1
  go_wp2_with fail
  refine F2H.out.mono ?_; rintro e w2 ⟨rfl, hb2⟩
  have HO2 := Lib.hid (oev_later HO.out hb2)
  have HIN := Lib.hid (fun i hi => oev_at HO2.out i hi)
  have HB2 := Lib.hid (HB1.out.up hb2)
  have hbr := Below.refl w2.heap.size w2
  clear hb2 F2H
  go_wp2_with fail
  go_loopw [5, 6] (fun sv iv wr => ∃ (k : Nat), iv = .int .i64 k ∧ k ≤ FW.length ∧ sv = .string ⟨(textE (FW.take k)).toArray⟩ ∧ Hid ((FW.take k).all goodT = true) ∧ Below w2.heap.size w2 wr) (fun _ iv _ => FW.length - (intOf iv).toNat)
  case atStart => exact ⟨0, rfl, Nat.zero_le _, rfl, Lib.hid rfl, hbr⟩
  case round =>
    obtain ⟨k, rfl, hk, rfl, hg, hbw⟩ := hrel
    clear hbr
    have e0 : (0 : Int) ≤ (k : Int) := by omega
    by_cases hlt : k < FW.length
    · have e1 : (k : Int) < (FW.length : Int) := by omega
      obtain ⟨g, rfl, hgl, d0⟩ := HIN.out k hlt
      have d := d0 wr hbw
      have hT : FW.take (k + 1) = FW.take k ++ [FW[k]] := List.take_succ_eq_append_getElem hlt
      have hx := H64.out FW[k] (List.getElem_mem hlt)
      have hmem := List.getElem_mem hlt
      generalize FW[k] = x at *
      have HT := Lib.hid hT
      have HG := Lib.hid hmem
      have HX := Lib.hid hx
      have GR : Hid (∀ w', Calls Tryz.prog 14 #[.agg #[.int .i64 x.kind, .int .i64 x.id, .int .i64 x.n, .int .i64 x.tick, .string x.bytes, .int .i64 x.err, .int .i64 x.sT, .int .i64 x.sA, .int .i64 x.sW, .int .i64 x.sR, .int .i64 x.sN, .int .i64 x.sS]] w' fun e w'' => e = .returned (.bool (goodT x)) ∧ Below w'.heap.size w' w'') := Lib.hid fun w' => rGoodAll x w' hx.1 (Nat.le_trans hx.2 (by decide))
      clear hT hmem hx d0 hgl
      cases hgx : goodT x
      all_goals (rw [hgx] at GR)
      · clear hgx hg
        go_wp2_with fail
        refine (GR.out _).mono ?_; rintro e w3 ⟨rfl, hb3⟩
        have HB3 := Lib.hid ((HB2.out.up hbw).up hb3)
        go_wp2_with fail
        refine (HLV.out _ (HE.out.later HB3.out)).mono ?_; rintro e w7 ⟨rfl, hb7⟩
        go_wp2_with fail
        go_ret
        exact ⟨rfl, HB3.out.up hb7⟩
      · have GP : Hid (∀ w', Calls Tryz.prog 15 #[.agg #[.int .i64 x.kind, .int .i64 x.id, .int .i64 x.n, .int .i64 x.tick, .string x.bytes, .int .i64 x.err, .int .i64 x.sT, .int .i64 x.sA, .int .i64 x.sW, .int .i64 x.sR, .int .i64 x.sN, .int .i64 x.sS]] w' fun e w'' => e = .returned (.string ⟨(lineT x).toArray⟩) ∧ Below w'.heap.size w' w'') := Lib.hid fun w' => rPrintT x w' hgx HX.out.1
        have HG1 : Hid ((FW.take (k + 1)).all goodT = true) := Lib.hid (by rw [HT.out, List.all_append, hg.out, List.all_cons, hgx]; rfl)
        have hsz : (textE (FW.take k)).length ≤ 6472 := by
          have h1 := textE_len (FW.take k) (fun x hx => H64.out x (List.mem_of_mem_take hx))
          have h2 : (FW.take k).length ≤ k := List.length_take_le _ _
          omega
        have hln := line_808 x HX.out.1 HX.out.2
        have HS : Hid ((⟨(textE (FW.take k)).toArray⟩ : ByteArray) ++ ⟨(lineT x).toArray⟩ ++ ⟨#[10]⟩ = ⟨(textE (FW.take (k + 1))).toArray⟩) := Lib.hid (by
          rw [HT.out, textE_snoc, bt_app]
          exact bt_app _ [10])
        clear hgx hg
        go_wp2_with fail
        refine (GR.out _).mono ?_; rintro e w3 ⟨rfl, hb3⟩
        have hbw3 := hbw.up hb3
        have d3 : w3.cell? ⟨g, k * 12, none⟩ = some (.int .i64 x.kind) ∧ w3.cell? ⟨g, k * 12 + 1, none⟩ = some (.int .i64 x.id) ∧ w3.cell? ⟨g, k * 12 + 2, none⟩ = some (.int .i64 x.n) ∧ w3.cell? ⟨g, k * 12 + 3, none⟩ = some (.int .i64 x.tick) ∧ w3.cell? ⟨g, k * 12 + 4, none⟩ = some (.string x.bytes) ∧ w3.cell? ⟨g, k * 12 + 5, none⟩ = some (.int .i64 x.err) ∧ w3.cell? ⟨g, k * 12 + 6, none⟩ = some (.int .i64 x.sT) ∧ w3.cell? ⟨g, k * 12 + 7, none⟩ = some (.int .i64 x.sA) ∧ w3.cell? ⟨g, k * 12 + 8, none⟩ = some (.int .i64 x.sW) ∧ w3.cell? ⟨g, k * 12 + 9, none⟩ = some (.int .i64 x.sR) ∧ w3.cell? ⟨g, k * 12 + 10, none⟩ = some (.int .i64 x.sN) ∧ w3.cell? ⟨g, k * 12 + 11, none⟩ = some (.int .i64 x.sS) := ⟨(hb3.cell (p := ⟨g, k * 12, none⟩) (block_lt d.1)).trans d.1, (hb3.cell (p := ⟨g, k * 12 + 1, none⟩) (block_lt d.2.1)).trans d.2.1, (hb3.cell (p := ⟨g, k * 12 + 2, none⟩) (block_lt d.2.2.1)).trans d.2.2.1, (hb3.cell (p := ⟨g, k * 12 + 3, none⟩) (block_lt d.2.2.2.1)).trans d.2.2.2.1, (hb3.cell (p := ⟨g, k * 12 + 4, none⟩) (block_lt d.2.2.2.2.1)).trans d.2.2.2.2.1, (hb3.cell (p := ⟨g, k * 12 + 5, none⟩) (block_lt d.2.2.2.2.2.1)).trans d.2.2.2.2.2.1, (hb3.cell (p := ⟨g, k * 12 + 6, none⟩) (block_lt d.2.2.2.2.2.2.1)).trans d.2.2.2.2.2.2.1, (hb3.cell (p := ⟨g, k * 12 + 7, none⟩) (block_lt d.2.2.2.2.2.2.2.1)).trans d.2.2.2.2.2.2.2.1, (hb3.cell (p := ⟨g, k * 12 + 8, none⟩) (block_lt d.2.2.2.2.2.2.2.2.1)).trans d.2.2.2.2.2.2.2.2.1, (hb3.cell (p := ⟨g, k * 12 + 9, none⟩) (block_lt d.2.2.2.2.2.2.2.2.2.1)).trans d.2.2.2.2.2.2.2.2.2.1, (hb3.cell (p := ⟨g, k * 12 + 10, none⟩) (block_lt d.2.2.2.2.2.2.2.2.2.2.1)).trans d.2.2.2.2.2.2.2.2.2.2.1, (hb3.cell (p := ⟨g, k * 12 + 11, none⟩) (block_lt d.2.2.2.2.2.2.2.2.2.2.2)).trans d.2.2.2.2.2.2.2.2.2.2.2⟩
        clear d hb3 hbw
        go_wp2_with fail
        refine (GP.out _).mono ?_; rintro e w4 ⟨rfl, hb4⟩
        have hbw4 := hbw3.up hb4
        clear hb4 hbw3 d3
        go_wp2_with fail
        go_roundw
        case rel => exact ⟨k + 1, by go_num, by omega, by rw [HS.out], HG1, hbw4⟩
        case measure => simp [intOf]; omega
    · obtain rfl : k = FW.length := by omega
      have hg2 := hg.out
      rw [List.take_length, HGA.out] at hg2
      cases hg2
theorem logWrites (l : List Ev) (ao : Option Addr) (cap : Nat) (w : World) (hin : EIn w ao l) (hl : l.length ≤ maxLen) (hN : ∀ x ∈ l, EvN x) (he : EnvL w) :
    Calls Tryz.prog 5 #[.slice ao l.length cap] w fun e w' => e = .returned (.bool true) ∧ Below w.heap.size w w' := by
  cases h : (fewT l).all goodT with
  | true => exact logWrites_ok l ao cap w hin hl hN he h
  | false => exact logWrites_no l ao cap w hin hl hN he h
end Go.Proofs.YtmnkekepccdlcaaGreatDoor
