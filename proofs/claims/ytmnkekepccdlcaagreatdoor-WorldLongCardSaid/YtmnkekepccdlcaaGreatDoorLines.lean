/-
  A text's lines: the plain word, that splitting gives them, and the reference's contract.
  Conditions: a text of at most 100000 bytes.
-/
import Derived.Test.YtmnkekepccdlcaaGreatDoorWgA
import Derived.Test.YtmnkekepccdlcaaGreatDoorShelf
import Derived.Lib.SplitLaws
import Derived.Lib.Join
namespace Go.Proofs.YtmnkekepccdlcaaGreatDoor
set_option linter.unusedVariables false
set_option linter.unusedSimpArgs false
open Go.RowKit

theorem ext_drop (s : ByteArray) (k : Nat) : (s.extract k s.size).data.toList = s.data.toList.drop k := by
  have hl : (s.data.toList.drop k).length = s.size - k := by rw [List.length_drop]; rfl
  rw [ByteArray.data_extract, Array.toList_extract, List.extract_eq_take_drop]
  exact List.take_of_length_le (by rw [hl]; exact Nat.le_refl _)

theorem infoStrR : (Tryz.prog.info? 9).map (fun i => (i.zero, i.size, i.bytes)) = some (some (.string ⟨#[]⟩), 1, 16) := by kernel_rfl
def scells (l : List (List UInt8)) : List Value := l.map fun x => .string (bt x)
def OS (B : Nat) (w : World) (ao : Option Addr) (cap : Nat) (l : List (List UInt8)) : Prop := ORow 9 1 B w (.slice ao l.length cap) l.length (scells l)
theorem os_later {B cap : Nat} {w w' : World} {ao : Option Addr} {l : List (List UInt8)} (h : OS B w ao cap l) (hb : Below w.heap.size w w') : OS B w' ao cap l := orow_later h hb
theorem os_at {B cap : Nat} {w : World} {ao : Option Addr} {l : List (List UInt8)} (h : OS B w ao cap l) (i : Nat) (hi : i < l.length) :
    ∃ g, ao = some ⟨g, 0, none⟩ ∧ g < w.heap.size ∧ ∀ w', Below w.heap.size w w' → w'.cell? ⟨g, i, none⟩ = some (.string (bt l[i])) := by
  obtain ⟨g, hg, hlt, h0⟩ := orow_cell h i (by simpa [scells] using hi)
  refine ⟨g, hg, hlt, fun w' hb => (h0 w' hb).trans ?_⟩
  unfold scells
  rw [List.getElem?_map, List.getElem?_eq_getElem hi]
  rfl

/-- A text's lines. -/
def linesL : List UInt8 → List (List UInt8)
  | [] => [[]]
  | c :: t => if c = 10 then [] :: linesL t else match linesL t with
    | [] => [[c]]
    | l :: r => (c :: l) :: r
theorem linesL_ne : ∀ t, linesL t ≠ []
  | [] => by simp [linesL]
  | c :: t => by
    unfold linesL
    split
    · simp
    · cases h : linesL t <;> simp
theorem linesL_none : ∀ {x : List UInt8}, (∀ b ∈ x, b ≠ 10) → linesL x = [x]
  | [], _ => rfl
  | c :: x, h => by
    have h1 := linesL_none (x := x) (fun b hb => h b (by simp [hb]))
    unfold linesL
    rw [if_neg (h c (by simp)), h1]
theorem linesL_hit : ∀ {x r : List UInt8}, (∀ b ∈ x, b ≠ 10) → linesL (x ++ 10 :: r) = x :: linesL r
  | [], r, _ => by simp [linesL]
  | c :: x, r, h => by
    have h1 := linesL_hit (x := x) (r := r) (fun b hb => h b (by simp [hb]))
    show linesL (c :: (x ++ 10 :: r)) = _
    conv => lhs; unfold linesL
    rw [if_neg (h c (by simp)), h1]
theorem linesL_join : ∀ t, Lib.join (linesL t) [10] = t
  | [] => rfl
  | c :: t => by
    have h1 := linesL_join t
    have h2 := linesL_ne t
    unfold linesL
    split
    · rename_i h
      subst h
      cases hl : linesL t with
      | nil => exact absurd hl h2
      | cons l r =>
        rw [hl] at h1
        have : Lib.join ([] :: l :: r) [10] = 10 :: Lib.join (l :: r) [10] := by simp [Lib.join, List.intercalate]
        rw [this, h1]
    · cases hl : linesL t with
      | nil => exact absurd hl h2
      | cons l r =>
        rw [hl] at h1
        simp only
        cases r with
        | nil => rw [Lib.join_one] at h1 ⊢; rw [h1]
        | cons m r =>
          have e1 : Lib.join ((c :: l) :: m :: r) [10] = c :: Lib.join (l :: m :: r) [10] := by simp [Lib.join, List.intercalate]
          rw [e1, h1]

theorem split_lines : ∀ (k : Nat) (t : List UInt8), t.count 10 ≤ k → Lib.splitK [10] 0 k t = linesL t
  | 0, t, h => by
    have : ∀ b ∈ t, b ≠ 10 := fun b hb e => by
      subst e
      have := List.count_pos_iff.2 hb
      omega
    rw [linesL_none this]
    rfl
  | k + 1, t, h => by
    unfold Lib.splitK
    rw [Lib.index_one]
    have key : ∀ t : List UInt8, (Lib.indexByte t 10 = -1 ∧ ∀ b ∈ t, b ≠ 10) ∨ ∃ x r, t = x ++ 10 :: r ∧ (∀ b ∈ x, b ≠ 10) ∧ Lib.indexByte t 10 = (x.length : Nat) := by
      intro t
      induction t with
      | nil => exact .inl ⟨rfl, by simp⟩
      | cons c t ih =>
        by_cases hc : c = 10
        · subst hc
          exact .inr ⟨[], t, rfl, by simp, by simp [Lib.indexByte]⟩
        · have hc' : (c == 10) = false := beq_eq_false_iff_ne.2 hc
          rcases ih with ⟨i1, i2⟩ | ⟨x, r, rfl, i2, i3⟩
          · refine .inl ⟨by simp [Lib.indexByte, hc, i1], fun b hb => ?_⟩
            rcases List.mem_cons.1 hb with rfl | hb
            · exact hc
            · exact i2 b hb
          · refine .inr ⟨c :: x, r, rfl, fun b hb => ?_, ?_⟩
            · rcases List.mem_cons.1 hb with rfl | hb
              · exact hc
              · exact i2 b hb
            · have h3 : ((x.length : Int) == -1) = false := beq_eq_false_iff_ne.2 (by omega)
              unfold Lib.indexByte
              rw [i3, hc', h3]
              simp
    rcases key t with ⟨h1, h2⟩ | ⟨x, r, rfl, h2, h3⟩
    · rw [h1, linesL_none h2]
      rfl
    · have h4 : ((x.length : Int) == -1) = false := beq_eq_false_iff_ne.2 (by omega)
      have h5 : r.count 10 ≤ k := by
        rw [List.count_append, List.count_cons_self] at h
        omega
      have e1 : (x ++ 10 :: r).take x.length = x := by simp
      have e2 : (x ++ 10 :: r).drop (x.length + 1) = r := by
        rw [← List.drop_drop]; simp
      rw [h3, h4, linesL_hit h2]
      simp only [Bool.false_eq_true, if_false, Int.toNat_natCast, Nat.add_zero, List.length_cons, List.length_nil, Nat.zero_add, e1, e2, split_lines k r h5]

/-- What the lines of a text give. -/
def LinesPost (B : Nat) (r : List (List UInt8)) (w : World) (e : Ending) (w' : World) : Prop := ∃ ao cap, e = .returned (.slice ao r.length cap) ∧ OS B w' ao cap r ∧ Below w.heap.size w w'

theorem no10_snoc {x : List UInt8} {c : UInt8} (h : ∀ b ∈ x, b ≠ 10) (hc : c ≠ 10) : ∀ b ∈ x ++ [c], b ≠ 10 := by
  intro b hb
  rcases List.mem_append.1 hb with hb | hb
  · exact h b hb
  · simp at hb; subst hb; exact hc

set_option maxHeartbeats 4000000 in
theorem yLines (s : ByteArray) (w : World) (hs : s.size ≤ 100000) : Calls Tryz.prog 26 #[.string s] w (LinesPost w.heap.size (linesL s.data.toList) w) := by
  generalize hT : linesL s.data.toList = T
  have HT := Lib.hid hT
  clear hT
  have hob0 := orow_empty 9 1 w.heap.size w (Nat.le_refl _)
  have hb0 : Below w.heap.size w (w.alloc (.cells #[] 9)) := (Below.refl _ _).alloc (Nat.le_refl _) _
  go_enter Tryz.func26, Tryz.ntmps26
  go_wp2_with fail
  generalize hB : w.heap.size = B at *
  have hBs : B ≤ w.heap.size := Nat.le_of_eq hB.symm
  have HB := Lib.hid hB
  clear hB
  go_loopw [3, 4, 5] (fun ov av iv wr => ∃ (k a : Nat) (ao : Option Addr) (cap : Nat) (acc : List (List UInt8)), iv = .int .i64 k ∧ av = .int .i64 a ∧ a ≤ k ∧ k ≤ s.size ∧ ov = .slice ao acc.length cap ∧ acc.length ≤ k ∧ Hid (OS B wr ao cap acc) ∧ Below B w wr ∧
    Hid (T = acc ++ linesL (s.data.toList.drop a)) ∧ Hid (∀ b ∈ (s.data.toList.drop a).take (k - a), b ≠ 10)) (fun _ _ iv _ => s.size - (intOf iv).toNat)
  case atStart => exact ⟨0, 0, _, 0, [], rfl, rfl, Nat.le_refl _, Nat.zero_le _, rfl, Nat.le_refl _, Lib.hid hob0, hb0, Lib.hid (by rw [← HT.out]; rfl), Lib.hid (by simp)⟩
  case round =>
    obtain ⟨k, a, ao, cap, acc, rfl, rfl, hak, hk, rfl, hal, hos, hb, hTT, hno⟩ := hrel
    clear hob0 hb0
    have e0 : (0 : Int) ≤ (k : Int) := by omega
    have e00 : (0 : Int) ≤ (a : Int) := by omega
    have eak : (a : Int) ≤ (k : Int) := by omega
    have eks : (k : Int) ≤ (s.size : Int) := by omega
    have hm : acc.length ≤ 1000000 := by omega
    by_cases hlt : k < s.size
    · have e1 : (k : Int) < (s.size : Int) := by omega
      have hd := drop_at s k hlt
      have hsplit : s.data.toList.drop a = (s.data.toList.drop a).take (k - a) ++ s.data.toList.drop k := by
        conv => lhs; rw [← List.take_append_drop (k - a) (s.data.toList.drop a)]
        rw [List.drop_drop, show a + (k - a) = k by omega]
      by_cases c10 : (s[k].toNat : Int) = 10
      · have hc : s[k] = 10 := u8_eq (c := s[k]) (d := 10) c10
        have hV : linesL (s.data.toList.drop a) = (s.data.toList.drop a).take (k - a) :: linesL (s.data.toList.drop (k + 1)) := by
          conv => lhs; rw [hsplit, hd, hc]
          exact linesL_hit hno.out
        have hxe : bt ((s.data.toList.drop a).take (k - a)) = s.extract a k := by
          apply ByteArray.ext
          apply Array.toList_inj.1
          rw [ByteArray.data_extract, Array.toList_extract, List.extract_eq_take_drop]
        have HV := Lib.hid (show T = (acc ++ [(s.data.toList.drop a).take (k - a)]) ++ linesL (s.data.toList.drop (k + 1)) by rw [hTT.out, hV]; simp)
        have HXE := Lib.hid hxe
        have hos2 := hos.out
        unfold OS at hos2
        clear hV hxe hd hsplit hc hos
        go_wp2_with (at_builtin; refine wpList_append_elem infoStrR rfl (by decide) (by decide) Tryz.underlying45 _ rfl _ _ rfl B _ _ _ rfl (World.ownsRow.alloc hos2 _) wr.heap.size rfl [.string (s.extract a k)] rfl ?ta1 ?ta2 hm ?ta3 ?ta4)
        case ta1 =>
          intro j u hj
          match j, hj with
          | 0, hj => simp at hj; subst hj; exact cell_new1 _ _ _
        case ta2 => first | rfl | (intro u hu; simp at hu; subst hu; rfl)
        case ta3 => have := hb.size; simp; omega
        case ta4 =>
          intro ao' cap' w3 g3 g4
          have hb4 : Below B w w3 := orow_below (World.ownsRow.alloc hos2 _) (hb.alloc (by have := hb.size; omega) _) g4 hBs
          have hl1 : (acc ++ [(s.data.toList.drop a).take (k - a)]).length = acc.length + 1 := by simp
          have hos3 : OS B w3 ao' cap' (acc ++ [(s.data.toList.drop a).take (k - a)]) := by
            unfold OS
            rw [hl1]
            unfold scells
            rw [List.map_append, List.map_cons, List.map_nil, HXE.out]
            exact g3
          have HOS := Lib.hid hos3
          clear g3 g4 hb hos2 hos3
          go_wp2_with fail
          go_roundw
          case rel => exact ⟨k + 1, k + 1, ao', cap', _, by go_num, by go_num, Nat.le_refl _, by omega, by rw [hl1], by omega, HOS, hb4, HV, Lib.hid (by simp)⟩
          case measure => simp [intOf]; omega
      · have c10b := ne_b c10
        have hn : (s.data.toList.drop a).take (k + 1 - a) = (s.data.toList.drop a).take (k - a) ++ [s[k]] := by
          rw [show k + 1 - a = (k - a) + 1 by omega, List.take_add_one, List.getElem?_drop, show a + (k - a) = k by omega]
          have : s.data.toList[k]? = some s[k] := by
            rw [List.getElem?_eq_getElem (by simpa using hlt)]; rfl
          rw [this]; rfl
        have HN := Lib.hid (show ∀ b ∈ (s.data.toList.drop a).take (k + 1 - a), b ≠ 10 by rw [hn]; exact no10_snoc hno.out (fun e => c10 (by rw [e]; rfl)))
        clear hn hd hsplit c10
        go_wp2_with fail
        go_roundw
        case rel => exact ⟨k + 1, a, ao, cap, acc, by go_num, rfl, by omega, by omega, rfl, by omega, hos, hb, hTT, HN⟩
        case measure => simp [intOf]; omega
    · obtain rfl : k = s.size := by omega
      have e1 : ¬ (s.size : Int) < (s.size : Int) := by omega
      have hall : (s.data.toList.drop a).take (s.size - a) = s.data.toList.drop a := List.take_of_length_le (by rw [List.length_drop]; exact Nat.le_refl _)
      have hV : T = acc ++ [s.data.toList.drop a] := by
        rw [hTT.out, linesL_none (by rw [← hall]; exact hno.out)]
      have hxe : bt (s.data.toList.drop a) = s.extract a s.size := by
        apply ByteArray.ext
        apply Array.toList_inj.1
        rw [ext_drop]
      have HXE := Lib.hid hxe
      have HV := Lib.hid hV
      have hos2 := hos.out
      unfold OS at hos2
      clear hxe hV hall hos
      go_wp2_with (at_builtin; refine wpList_append_elem infoStrR rfl (by decide) (by decide) Tryz.underlying45 _ rfl _ _ rfl B _ _ _ rfl (World.ownsRow.alloc hos2 _) wr.heap.size rfl [.string (s.extract a s.size)] rfl ?tb1 ?tb2 hm ?tb3 ?tb4)
      case tb2 => first | rfl | (intro u hu; simp at hu; subst hu; rfl)
      case tb3 => have := hb.size; simp; omega
      case tb4 =>
        intro ao' cap' w3 g3 g4
        have hb4 : Below B w w3 := orow_below (World.ownsRow.alloc hos2 _) (hb.alloc (by have := hb.size; omega) _) g4 hBs
        have hl1 : (acc ++ [s.data.toList.drop a]).length = acc.length + 1 := by simp
        have hos3 : OS B w3 ao' cap' (acc ++ [s.data.toList.drop a]) := by
          unfold OS
          rw [hl1]
          unfold scells
          rw [List.map_append, List.map_cons, List.map_nil, HXE.out]
          exact g3
        have HOS := Lib.hid hos3
        clear g3 g4 hb hos2 hos3
        go_wp2_with fail
        go_ret
        have hBe := HB.out
        exact ⟨ao', cap', by rw [HV.out, hl1]; rfl, by rw [HV.out]; exact HOS.out, by rw [hBe]; exact hb4⟩

end Go.Proofs.YtmnkekepccdlcaaGreatDoor
