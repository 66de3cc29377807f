/-
  Contracts of package lex and of its reference: words of a line.
  Conditions: a text of at most 100000 bytes.
-/
import Derived.Test.YtmnkekepccdlcaaGreatDoorWgB
import Derived.Test.YtmnkekepccdlcaaGreatDoorWgA
import Derived.Test.YtmnkekepccdlcaaGreatDoorWgC
import Derived.Test.YtmnkekepccdlcaaGreatDoorLines
import Derived.Deep.DeepCutAuto
namespace Go.Proofs.YtmnkekepccdlcaaGreatDoor
set_option linter.unusedVariables false
set_option linter.unusedSimpArgs false
open Go.RowKit

theorem plain_of {c : UInt8} (h : 32 < (c.toNat : Int) ∧ (c.toNat : Int) < 127 ∧ ¬ (c.toNat : Int) = 34 ∧ ¬ (c.toNat : Int) = 92) : plainB c = true := by
  unfold plainB
  have h1 : (32 : UInt8) < c := UInt8.lt_iff_toNat_lt.2 (by simp; omega)
  have h2 : c < (127 : UInt8) := UInt8.lt_iff_toNat_lt.2 (by simp; omega)
  have h3 : (c == 34) = false := beq_eq_false_iff_ne.2 (fun e => h.2.2.1 (by rw [e]; rfl))
  have h4 : (c == 92) = false := beq_eq_false_iff_ne.2 (fun e => h.2.2.2 (by rw [e]; rfl))
  simp [h1, h2, h3, h4]
theorem plain_not {c : UInt8} (h : ¬ (32 < (c.toNat : Int) ∧ (c.toNat : Int) < 127 ∧ ¬ (c.toNat : Int) = 34 ∧ ¬ (c.toNat : Int) = 92)) : plainB c = false := by
  unfold plainB
  cases h1 : (decide (32 < c) && decide (c < 127) && !(c == 34) && !(c == 92)) with
  | false => rfl
  | true =>
    simp only [Bool.and_eq_true, decide_eq_true_eq, Bool.not_eq_true', beq_eq_false_iff_ne] at h1
    obtain ⟨⟨⟨a1, a2⟩, a3⟩, a4⟩ := h1
    have b1 := UInt8.lt_iff_toNat_lt.1 a1
    have b2 := UInt8.lt_iff_toNat_lt.1 a2
    simp at b1 b2
    exact absurd ⟨by omega, by omega, fun e => a3 (u8_eq (d := 34) e), fun e => a4 (u8_eq (d := 92) e)⟩ h

set_option maxHeartbeats 1000000 in
theorem xPlainI (n : Int) (p : Bool) (w : World) (h : (32 < n ∧ n < 127 ∧ ¬ n = 34 ∧ ¬ n = 92) ∧ p = true ∨ (n < 33 ∨ 126 < n ∨ n = 34 ∨ n = 92) ∧ p = false) : Calls Tryz.prog 116 #[.int .u8 n] w fun e w' => e = .returned (.bool p) ∧ w = w' := by
  rcases h with ⟨⟨h1, h2, h3, h4⟩, rfl⟩ | ⟨h | h | h | h, rfl⟩
  · have e1 : (33 : Int) ≤ n := by omega
    have e2 : n ≤ (126 : Int) := by omega
    go_enter Tryz.func116, Tryz.ntmps116
    go_wp2_with fail
    go_ret
    exact ⟨by simp; exact ⟨h3, h4⟩, rfl⟩
  · go_enter Tryz.func116, Tryz.ntmps116
    go_wp2_with fail
    go_ret
    exact ⟨rfl, rfl⟩
  · have e1 : (33 : Int) ≤ n := by omega
    go_enter Tryz.func116, Tryz.ntmps116
    go_wp2_with fail
    go_ret
    exact ⟨rfl, rfl⟩
  · subst h
    go_enter Tryz.func116, Tryz.ntmps116
    go_wp2_with fail
    go_ret
    exact ⟨rfl, rfl⟩
  · subst h
    go_enter Tryz.func116, Tryz.ntmps116
    go_wp2_with fail
    go_ret
    exact ⟨rfl, rfl⟩
theorem xPlain (c : UInt8) (w : World) : Calls Tryz.prog 116 #[bval c] w fun e w' => e = .returned (.bool (plainB c)) ∧ w = w' := by
  by_cases h : 32 < (c.toNat : Int) ∧ (c.toNat : Int) < 127 ∧ ¬ (c.toNat : Int) = 34 ∧ ¬ (c.toNat : Int) = 92
  · rw [plain_of h]
    exact xPlainI _ true w (.inl ⟨h, rfl⟩)
  · rw [plain_not h]
    exact xPlainI _ false w (.inr ⟨by omega, rfl⟩)
set_option maxHeartbeats 1000000 in
theorem yPlainI (n : Int) (p : Bool) (w : World) (h : (32 < n ∧ n < 127 ∧ ¬ n = 34 ∧ ¬ n = 92) ∧ p = true ∨ (n < 33 ∨ 126 < n ∨ n = 34 ∨ n = 92) ∧ p = false) : Calls Tryz.prog 137 #[.int .u8 n] w fun e w' => e = .returned (.bool p) ∧ w = w' := by
  rcases h with ⟨⟨h1, h2, h3, h4⟩, rfl⟩ | ⟨h | h | h | h, rfl⟩
  · have e3 := ne_b h3
    have e4 := ne_b h4
    go_enter Tryz.func137, Tryz.ntmps137
    go_wp2_with fail
    go_ret
    exact ⟨by simp; exact ⟨h3, h4⟩, rfl⟩
  · have e1 : ¬ 32 < n := by omega
    go_enter Tryz.func137, Tryz.ntmps137
    go_wp2_with fail
    go_ret
    exact ⟨rfl, rfl⟩
  · have e1 : 32 < n := by omega
    have e2 : ¬ n < 127 := by omega
    go_enter Tryz.func137, Tryz.ntmps137
    go_wp2_with fail
    go_ret
    exact ⟨rfl, rfl⟩
  · subst h
    go_enter Tryz.func137, Tryz.ntmps137
    go_wp2_with fail
    go_ret
    exact ⟨rfl, rfl⟩
  · subst h
    go_enter Tryz.func137, Tryz.ntmps137
    go_wp2_with fail
    go_ret
    exact ⟨rfl, rfl⟩
theorem yPlain (c : UInt8) (w : World) : Calls Tryz.prog 137 #[bval c] w fun e w' => e = .returned (.bool (plainB c)) ∧ w = w' := by
  by_cases h : 32 < (c.toNat : Int) ∧ (c.toNat : Int) < 127 ∧ ¬ (c.toNat : Int) = 34 ∧ ¬ (c.toNat : Int) = 92
  · rw [plain_of h]
    exact yPlainI _ true w (.inl ⟨h, rfl⟩)
  · rw [plain_not h]
    exact yPlainI _ false w (.inr ⟨by omega, rfl⟩)

theorem bareN_at (s : ByteArray) (k : Nat) (hk : k ≤ s.size) (ha : ∀ j (h : j < s.size), j < k → plainB s[j] = true) (hb : k = s.size ∨ ∃ h : k < s.size, plainB s[k] = false) : bareN s.data.toList = k := by
  have hl : s.data.toList.length = s.size := rfl
  have h1 : ∀ b ∈ s.data.toList.take k, plainB b = true := by
    intro b hb
    obtain ⟨j, hj, rfl⟩ := List.mem_iff_getElem.1 hb
    rw [List.length_take] at hj
    rw [List.getElem_take]
    exact ha j (by omega) (by omega)
  have h2 : (s.data.toList.drop k).takeWhile plainB = [] := by
    rcases hb with rfl | ⟨h, hb⟩
    · rw [drop_end s _ (Nat.le_refl _)]; rfl
    · rw [drop_at s k h]; simp [hb]
  unfold bareN
  conv => lhs; rw [← List.take_append_drop k s.data.toList]
  rw [List.takeWhile_append_of_pos h1, h2, List.append_nil, List.length_take]
  omega

set_option maxHeartbeats 1000000 in
theorem xBare (s : ByteArray) (hs : s.size ≤ 100000) (w : World) : Calls Tryz.prog 82 #[.string s] w fun e w' => e = .returned (.int .i64 (bareN s.data.toList)) ∧ w = w' := by
  go_enter Tryz.func82, Tryz.ntmps82
  go_wp2_with fail
  go_loopw [3] (fun iv wr => ∃ k : Nat, iv = .int .i64 k ∧ k ≤ s.size ∧ Hid (∀ j (h : j < s.size), j < k → plainB s[j] = true) ∧ w = wr) (fun iv _ => s.size - (intOf iv).toNat)
  case atStart => exact ⟨0, rfl, Nat.zero_le _, Lib.hid (fun j _ h => absurd h (by omega)), rfl⟩
  case round =>
    obtain ⟨k, rfl, hk, hH, rfl⟩ := hrel
    have e0 : (0 : Int) ≤ (k : Int) := by omega
    by_cases hlt : k < s.size
    · have e1 : (k : Int) < (s.size : Int) := by omega
      have hp := fun w => xPlain s[k] w
      cases hb : plainB s[k] with
      | true =>
        rw [hb] at hp
        have HP := Lib.hid hp
        have HB := Lib.hid hb
        clear hp hb
        go_wp2_with fail
        refine (HP.out _).mono ?_; rintro e w1 ⟨rfl, rfl⟩
        go_wp2_with fail
        go_roundw
        case rel => exact ⟨k + 1, by go_num, by omega, Lib.hid (fun j h hj => by
          by_cases e : j = k
          · subst e; exact HB.out
          · exact hH.out j h (by omega)), trivial⟩
        case measure => simp [intOf]; omega
      | false =>
        have hV := bareN_at s k hk hH.out (.inr ⟨hlt, hb⟩)
        rw [hb] at hp
        have HP := Lib.hid hp
        have HV := Lib.hid hV
        clear hp hb hV
        go_wp2_with fail
        refine (HP.out _).mono ?_; rintro e w1 ⟨rfl, rfl⟩
        go_wp2_with fail
        go_ret
        exact ⟨by rw [HV.out]; rfl, rfl⟩
    · obtain rfl : k = s.size := by omega
      have HV := Lib.hid (bareN_at s _ hk hH.out (.inl rfl))
      have e1 : ¬ (s.size : Int) < (s.size : Int) := by omega
      go_wp2_with fail
      go_ret
      exact ⟨by rw [HV.out]; rfl, rfl⟩

theorem xStop (s : ByteArray) (k : Nat) (er : Int) (he : Hid ((if k = s.size then (3 : Int) else 2) = er)) (h : k ≤ s.size) (w : World) :
    Calls Tryz.prog 83 #[.string s, .int .i64 k] w fun e w' => e = .returned (.tuple #[.slice none 0 0, .int .i64 k, .int .i64 er]) ∧ w = w' := by
  by_cases h1 : k = s.size
  · obtain rfl : (3 : Int) = er := by rw [← he.out, if_pos h1]
    subst h1
    clear he
    go_enter Tryz.func83, Tryz.ntmps83
    go_wp2_with fail
    go_ret3
    exact ⟨rfl, rfl⟩
  · obtain rfl : (2 : Int) = er := by rw [← he.out, if_neg h1]
    have e1 : (k : Int) < (s.size : Int) := by omega
    clear he
    go_enter Tryz.func83, Tryz.ntmps83
    go_wp2_with fail
    go_ret3
    exact ⟨rfl, rfl⟩
end Go.Proofs.YtmnkekepccdlcaaGreatDoor

namespace Go.Proofs.YtmnkekepccdlcaaGreatDoor
set_option linter.unusedVariables false
set_option linter.unusedSimpArgs false
open Go.RowKit

theorem infoWord : (Tryz.prog.info? 110).map (fun i => (i.zero, i.size, i.bytes)) = some (some (.agg #[.string ⟨#[]⟩, .bool false, .int .i64 0]), 3, 32) := by kernel_rfl

/-- A word's cells. -/
def wcells (x : Wd) : List Value := [.string (bt x.text), .bool x.quoted, .int .i64 (x.place : Nat)]
def wsCells (l : List Wd) : List Value := l.flatMap wcells
theorem wsCells_len : ∀ l : List Wd, (wsCells l).length = l.length * 3
  | [] => rfl
  | x :: l => by
    have := wsCells_len l
    unfold wsCells at *
    simp only [List.flatMap_cons, List.length_append, List.length_cons, this]
    show 3 + l.length * 3 = _
    omega
theorem wsCells_snoc (l : List Wd) (x : Wd) : wsCells (l ++ [x]) = wsCells l ++ wcells x := by simp [wsCells]
theorem wsCells_at : ∀ (l : List Wd) (i : Nat) (h : i < l.length) (j : Nat), j < 3 → (wsCells l)[i * 3 + j]? = (wcells l[i])[j]?
  | [], i, h, _, _ => absurd h (by simp)
  | x :: l, 0, _, j, hj => by
    show (wcells x ++ wsCells l)[0 * 3 + j]? = _
    rw [List.getElem?_append_left (by show _ < 3; omega)]
    simp
  | x :: l, i + 1, h, j, hj => by
    have := wsCells_at l i (by simpa using h) j hj
    show (wcells x ++ wsCells l)[(i + 1) * 3 + j]? = _
    rw [List.getElem?_append_right (by show 3 ≤ _; omega)]
    show (wsCells l)[(i + 1) * 3 + j - 3]? = _
    rw [show (i + 1) * 3 + j - 3 = i * 3 + j by omega, this]
    rfl

/-- Words in a row of the call's own. -/
def OW (eT B : Nat) (w : World) (ao : Option Addr) (cap : Nat) (l : List Wd) : Prop := ORow eT 3 B w (.slice ao l.length cap) l.length (wsCells l)
theorem ow_later {eT B cap : Nat} {w w' : World} {ao : Option Addr} {l : List Wd} (h : OW eT B w ao cap l) (hb : Below w.heap.size w w') : OW eT B w' ao cap l := orow_later h hb
theorem ow_lower {eT B B' cap : Nat} {w : World} {ao : Option Addr} {l : List Wd} (h : OW eT B w ao cap l) (hB : B' ≤ B) : OW eT B' w ao cap l := orow_lower h hB

/-- What the words of a line give. -/
def WordsPost (eT B : Nat) (r : Option (List Wd) × Nat × Int) (w : World) (e : Ending) (w' : World) : Prop :=
  ∃ ao cap, e = .returned (.tuple #[.slice ao (r.1.getD []).length cap, .int .i64 (r.2.1 : Nat), .int .i64 r.2.2]) ∧ OW eT B w' ao cap (r.1.getD []) ∧ Below w.heap.size w w'

theorem set_only {a w : World} {g : Nat} (h : a.grownBy w (some g)) (i : Nat) (u : Value) : a.grownBy (w.setCell ⟨g, i, none⟩ u) (some g) :=
  ⟨h.os, h.tape, h.output, by simpa [World.setCell] using h.size, fun j hj hne => (Below.heap_setCell w ⟨g, i, none⟩ u j (fun e => hne (by rw [e]))).trans (h.block j hj hne)⟩

theorem words_stop {T : Option (List Wd) × Nat × Int} {acc : List Wd} {t : List UInt8} {k n : Nat} {er : Int} (h : T = ((wordsL t k).1.map (acc ++ ·), (wordsL t k).2)) (h1 : oneW t = (none, n, er)) : T = (none, k + n, er) := by
  rw [h, wordsL_none k (by rw [h1]), h1]; rfl
theorem words_end {T : Option (List Wd) × Nat × Int} {acc : List Wd} {t x : List UInt8} {q : Bool} {k n : Nat} (h : T = ((wordsL t k).1.map (acc ++ ·), (wordsL t k).2)) (h1 : oneW t = (some (x, q), n, 0)) (h2 : t.drop n = []) : T = (some (acc ++ [⟨x, q, k⟩]), 0, 0) := by
  rw [h, wordsL_end k (by rw [h1]) (by rw [h1]; exact h2)]; rfl
theorem words_bad {T : Option (List Wd) × Nat × Int} {acc : List Wd} {t x : List UInt8} {q : Bool} {k n : Nat} (h : T = ((wordsL t k).1.map (acc ++ ·), (wordsL t k).2)) (h1 : oneW t = (some (x, q), n, 0)) (h2 : t.drop n ≠ []) (h3 : (t.drop n).head? ≠ some 32) : T = (none, k + n, 2) := by
  rw [h, wordsL_bad k (by rw [h1]) (by rw [h1]; exact h2) (by rw [h1]; exact h3), h1]; rfl
theorem words_go {T : Option (List Wd) × Nat × Int} {acc : List Wd} {t x : List UInt8} {q : Bool} {k n : Nat} (h : T = ((wordsL t k).1.map (acc ++ ·), (wordsL t k).2)) (h1 : oneW t = (some (x, q), n, 0)) (h2 : t.drop n ≠ []) (h3 : (t.drop n).head? = some 32) :
    T = ((wordsL (t.drop (n + 1)) (k + n + 1)).1.map ((acc ++ [⟨x, q, k⟩]) ++ ·), (wordsL (t.drop (n + 1)) (k + n + 1)).2) := by
  rw [h, wordsL_go k (by rw [h1]) (by rw [h1]; exact h2) (by rw [h1]; exact h3), h1]
  simp only [Option.map_map, Prod.mk.injEq, and_true]
  congr 1
  funext l
  simp

theorem rdL_len2 (t : List UInt8) : ∀ l, (rdL t).1 = some l → l.length ≤ t.length := by
  refine rd_ind (Q := fun t => ∀ l, (rdL t).1 = some l → l.length ≤ t.length) ?_ ?_ ?_ t.length t (Nat.le_refl _)
  · intro t h l hl
    rw [rdL_end h] at hl
    cases hl
    exact Nat.zero_le _
  · intro t h h1 l hl
    rw [rdL_stop h h1] at hl
    cases hl
  · intro t b h h1 ih l hl
    rw [rdL_go h h1] at hl
    obtain ⟨l', hl', rfl⟩ := Option.map_eq_some_iff.1 hl
    have h2 := ih l' hl'
    have h3 := oneL_some h1
    have h4 := (oneL_le t).1
    rw [List.length_drop] at h2
    rw [List.length_cons]
    omega
theorem readT_len2 {s l : List UInt8} (h : (readT s).1 = some l) : l.length ≤ s.length := by
  match s with
  | [] => simp [readT] at h
  | c :: t =>
    simp only [readT] at h
    split at h
    · have := rdL_len2 t l h
      rw [List.length_cons]; omega
    · cases h

set_option maxHeartbeats 8000000 in
set_option maxRecDepth 100000 in
theorem xWords (s : ByteArray) (hs : s.size ≤ 100000) (w : World) :
    Calls Tryz.prog 55 #[.string s] w (WordsPost 110 w.heap.size (wordsT s.data.toList) w) := by
  by_cases h1200 : 1200 < s.size
  · have hT : wordsT s.data.toList = (none, 1200, 4) := if_pos h1200
    rw [hT]
    have e1 : (1200 : Int) < (s.size : Int) := by omega
    go_enter Tryz.func55, Tryz.ntmps55
    go_wp2_with fail
    go_ret3
    exact ⟨none, 0, rfl, World.ownsRow_nil _ _ _ _, Below.refl _ _⟩
  · by_cases h0 : s.size = 0
    · obtain rfl : s = ⟨#[]⟩ := by
        apply ByteArray.ext
        exact Array.eq_empty_of_size_eq_zero h0
      go_enter Tryz.func55, Tryz.ntmps55
      go_wp2_with fail
      go_ret3
      exact ⟨none, 0, rfl, World.ownsRow_nil _ _ _ _, Below.refl _ _⟩
    · have hne : s.toList.isEmpty = false := by
        rw [ByteArray.toList_eq]
        cases hl : s.data.toList with
        | nil => have : s.data.toList.length = s.size := rfl
                 rw [hl] at this; simp at this; omega
        | cons _ _ => rfl
      have hT : wordsT s.data.toList = wordsL s.data.toList 0 := by
        have hl : s.data.toList.length = s.size := rfl
        have hn : s.data.toList ≠ [] := by
          intro e
          rw [e] at hl
          exact h0 (by simpa using hl.symm)
        unfold wordsT
        rw [if_neg (show ¬ 1200 < s.data.toList.length from h1200), if_neg hn]
      have HT := Lib.hid hT
      clear hT
      generalize wordsT s.data.toList = T at HT ⊢
      have h12 : ¬ (1200 : Int) < (s.size : Int) := by omega
      go_enter Tryz.func55, Tryz.ntmps55
      go_wp2_with fail
      generalize hB : w.heap.size = B at *
      have hBs : B ≤ w.heap.size := Nat.le_of_eq hB.symm
      have HB := Lib.hid hB
      clear hB
      go_loopw [5, 6] (fun ov iv wr => ∃ (k : Nat) (ao : Option Addr) (cap : Nat) (acc : List Wd), iv = .int .i64 k ∧ ov = .slice ao acc.length cap ∧ k ≤ s.size ∧ acc.length ≤ k ∧ OW 110 B wr ao cap acc ∧ Below B w wr ∧
        Hid (T = ((wordsL (s.data.toList.drop k) k).1.map (acc ++ ·), (wordsL (s.data.toList.drop k) k).2))) (fun _ iv _ => s.size + 1 - (intOf iv).toNat)
      case atStart => exact ⟨0, none, 0, [], rfl, rfl, Nat.zero_le _, Nat.zero_le _, World.ownsRow_nil _ _ _ _, Below.refl _ _, Lib.hid (by rw [HT.out]; simp)⟩
      case round =>
        obtain ⟨k, ao, cap, acc, rfl, rfl, hk, hal, how, hb, hH⟩ := hrel
        clear HT hne h0 h12 h1200
        have e0 : (0 : Int) ≤ (k : Int) := by omega
        have e00 : (k : Int) ≤ (s.size : Int) := by omega
        obtain ⟨q, hq⟩ : ∃ q, wr.heap.size = q := ⟨_, rfl⟩
        generalize hwa : wr.alloc (.cells #[.string ⟨#[]⟩, .bool false, .int .i64 k] 110) = wa
        have ka : Blk wa q 110 #[.string ⟨#[]⟩, .bool false, .int .i64 k] := by rw [← hwa, ← hq]; exact Blk.new _ _ _
        have hba : Below B w wa := by rw [← hwa]; exact hb.alloc (Nat.le_trans hBs hb.size) _
        have howa : OW 110 B wa ao cap acc := by rw [← hwa]; exact ow_later how ((Below.refl _ _).alloc (Nat.le_refl _) _)
        have hqB : B ≤ q := by rw [← hq]; exact Nat.le_trans hBs hb.size
        have hrow : ∀ g, (Value.slice ao acc.length cap).ownBlock = some g → g < q := fun g hg => hq ▸ (World.ownsRow.lt how g hg).2
        have HWA := Lib.hid hwa
        have HQ := Lib.hid hq
        clear hwa hq how hb
        by_cases hq34 : ∃ h : k < s.size, (s[k].toNat : Int) = 34
        · obtain ⟨hlt, c34⟩ := hq34
          have e1 : (k : Int) < (s.size : Int) := by omega
          have hh : (s.data.toList.drop k).head? = some 34 := by rw [drop_at s k hlt, show s[k] = 34 from u8_eq (c := s[k]) (d := 34) c34]; rfl
          have hle := readT_le (s.data.toList.drop k)
          have hlen := @readT_len2 (s.data.toList.drop k)
          have hdl : (s.data.toList.drop k).length = s.size - k := by rw [List.length_drop]; rfl
          have hsz : (s.extract k s.size).size = s.size - k := by simp
          have hrd := fun w => qRead (s.extract k s.size) (by omega) w
          rw [ext_drop, hsz] at hrd
          rw [hdl] at hle
          have hone : oneW (s.data.toList.drop k) = ((readT (s.data.toList.drop k)).1.map (fun l => (l, true)), (readT (s.data.toList.drop k)).2, if (readT (s.data.toList.drop k)).1.isSome then 0 else if (readT (s.data.toList.drop k)).2 = s.size - k then 3 else 2) := by
            unfold oneW; rw [if_pos hh, hdl]
          generalize readT (s.data.toList.drop k) = R at *
          rcases R with ⟨_ | l, n⟩
          · simp only [rdV] at hrd hone hle
            obtain ⟨er, her⟩ : ∃ er : Int, (if n = s.size - k then (3 : Int) else 2) = er := ⟨_, rfl⟩
            have h0 : (er == 0) = false := ne_b (by rw [← her]; split <;> omega)
            rw [her] at hrd
            have hV : T = (none, k + n, er) := words_stop hH.out (by rw [hone]; simp [her])
            have HR := Lib.hid hrd
            subst hV
            clear hrd hone her hh hH hlen
            go_wp2_with fail
            rw [HQ.out, HWA.out]
            go_wp2_with fail
            refine (HR.out _).mono ?_; rintro e w1 ⟨rfl, hb1⟩
            have hb2 := hba.up hb1 hBs
            go_wp2_with fail
            go_ret3
            have hBe := HB.out
            exact ⟨none, 0, rfl, World.ownsRow_nil _ _ _ _, by rw [hBe]; exact hb2⟩
          · simp only [rdV] at hrd hone hle
            have hone' : oneW (s.data.toList.drop k) = (some (l, true), n, 0) := by rw [hone]; rfl
            have hl := hlen rfl
            have hlz : (bt l).size ≤ 100000 := by show l.length ≤ _; omega
            have HR := Lib.hid hrd
            clear hrd hone hh hlen
            go_wp2_with fail
            rw [HQ.out, HWA.out]
            go_wp2_with fail
            refine (HR.out _).mono ?_; rintro e w1 ⟨rfl, hb1⟩
            have kb := ka.later hb1
            have how1 := ow_later howa hb1
            have hb2 := hba.up hb1 hBs
            clear ka howa hba hb1
            have dq := kb.at3
            have hr := Below.refl w1.heap.size w1
            have hn' : k + n ≤ s.size := by omega
            go_upto_region 20 with fail
            generalize hw2 : (w1.setCell ⟨q, 0, none⟩ (.string (bt l))).setCell ⟨q, 1, none⟩ (.bool true) = w2
            have kc : Blk w2 q 110 #[.string (bt l), .bool true, .int .i64 k] := by
              rw [← hw2]
              have := (kb.set_ 0 (.string (bt l))).set_ 1 (.bool true)
              simpa using this
            have g2 : w1.grownBy w2 (some q) := by rw [← hw2]; exact set_only (set_only (World.grownBy.refl _ _) _ _) _ _
            have hb3 : Below B w w2 := hb2.grown g2 (Nat.le_trans hBs hb2.size) (fun j hj => by cases hj; exact hqB)
            have how2 : OW 110 B w2 ao cap acc := World.ownsRow.kept how1 g2 (.inr (fun e => Nat.lt_irrefl _ (hrow q e)))
            clear hw2 g2 hb2 how1 kb dq hr
            have dq := kc.at3
            have hr := Below.refl w2.heap.size w2
            have hm : acc.length ≤ 1000000 := by omega
            go_wp2_with (at_builtin; refine wpList_append_elem infoWord rfl (by decide) (by decide) Tryz.underlying84 _ rfl _ _ rfl B _ _ _ rfl (World.ownsRow.alloc how2 _) w2.heap.size rfl (wcells ⟨l, true, k⟩) rfl ?ta1 ?ta2 hm ?ta3 ?ta4)
            case ta1 =>
              intro j u hj
              exact ((Blk.new w2 110 #[.string (bt l), .bool true, .int .i64 k]).cell j).trans (by rw [← hj]; simp [wcells])
            case ta2 =>
              intro u hu
              simp [wcells] at hu
              rcases hu with rfl | rfl | rfl <;> rfl
            case ta3 => have := hb3.size; simp; omega
            case ta4 =>
              intro ao' cap' w3 g3 g4
              have hb4 : Below B w w3 := orow_below (World.ownsRow.alloc how2 _) (hb3.alloc (by have := hb3.size; omega) _) g4 hBs
              have hl1 : (acc ++ [(⟨l, true, k⟩ : Wd)]).length = acc.length + 1 := by simp
              have how3 : OW 110 B w3 ao' cap' (acc ++ [⟨l, true, k⟩]) := by
                unfold OW
                rw [hl1, wsCells_snoc]
                exact g3
              clear g3 g4 hb3 how2 kc dq hr
              have hr := Below.refl w3.heap.size w3
              by_cases hend : k + n = s.size
              · have hV := words_end hH.out hone' (by rw [List.drop_drop]; exact drop_end s _ (by omega))
                have e5 : ((k : Int) + (n : Int) == (s.size : Int)) = true := by rw [beq_iff_eq]; omega
                subst hV
                clear hH hone' hend
                go_wp2_with fail
                go_ret3
                have hBe := HB.out
                exact ⟨ao', cap', by simp only [Option.getD_some, hl1]; rfl, by simpa using how3, by rw [hBe]; exact hb4⟩
              · have hlt2 : k + n < s.size := by omega
                have e5 : ((k : Int) + (n : Int) == (s.size : Int)) = false := ne_b (by omega)
                have e6 : (k : Int) + (n : Int) < (s.size : Int) := by omega
                have hd2 := drop_at s (k + n) hlt2
                rw [← List.drop_drop] at hd2
                have hne2 : (s.data.toList.drop k).drop n ≠ [] := by rw [hd2]; simp
                by_cases c32 : (s[k + n].toNat : Int) = 32
                · have hV := words_go hH.out hone' hne2 (by rw [hd2, show s[k + n] = 32 from u8_eq (c := s[k + n]) (d := 32) c32]; rfl)
                  rw [List.drop_drop, ← Nat.add_assoc] at hV
                  have HV := Lib.hid hV
                  clear hV hd2 hne2 hH hone' hend
                  go_wp2_with fail
                  go_roundw
                  case rel => exact ⟨k + n + 1, ao', cap', acc ++ [⟨l, true, k⟩], by go_num, by rw [hl1], by omega, by omega, how3, hb4, HV⟩
                  case measure => simp [intOf]; omega
                · have hV := words_bad hH.out hone' hne2 (by
                    rw [hd2]
                    intro e
                    exact c32 (by rw [show s[k + n] = 32 from by simpa using e]; rfl))
                  have c32b := ne_b c32
                  have hst := fun w => xStop s (k + n) 2 (Lib.hid (if_neg hend)) (by omega) w
                  have HST := Lib.hid hst
                  subst hV
                  clear hd2 hne2 hH hone' hend hst c32
                  go_wp2_with fail
                  refine (HST.out _).mono ?_; rintro e w4 ⟨rfl, rfl⟩
                  go_wp2_with fail
                  go_ret3
                  have hBe := HB.out
                  exact ⟨none, 0, rfl, World.ownsRow_nil _ _ _ _, by rw [hBe]; exact hb4⟩
        · have hh : (s.data.toList.drop k).head? ≠ some 34 := by
            intro e
            rcases Nat.lt_or_ge k s.size with h | h
            · rw [drop_at s k h] at e
              exact hq34 ⟨h, by rw [show s[k] = 34 from by simpa using e]; rfl⟩
            · rw [drop_end s k h] at e
              simp at e
          have hway : (¬ (k : Int) < (s.size : Int)) ∨ ((k : Int) < (s.size : Int) ∧ ∃ h : k < s.size, ((s[k].toNat : Int) == 34) = false) := by
            rcases Nat.lt_or_ge k s.size with h | h
            · exact .inr ⟨by omega, h, ne_b (fun e => hq34 ⟨h, e⟩)⟩
            · exact .inl (by omega)
          have hdl : (s.data.toList.drop k).length = s.size - k := by rw [List.length_drop]; rfl
          have hsz : (s.extract k s.size).size = s.size - k := by simp
          have hbr := fun w => xBare (s.extract k s.size) (by omega) w
          have hble := bareN_le (s.data.toList.drop k)
          have hone : oneW (s.data.toList.drop k) = if bareN (s.data.toList.drop k) = 0 then (none, 0, if s.data.toList.drop k = [] then 3 else 2) else (some ((s.data.toList.drop k).take (bareN (s.data.toList.drop k)), false), bareN (s.data.toList.drop k), 0) := by
            unfold oneW; rw [if_neg hh]
          rw [ext_drop] at hbr
          rw [hdl] at hble
          generalize bareN (s.data.toList.drop k) = n at *
          clear hq34 hh
          by_cases hn0 : n = 0
          · subst hn0
            obtain ⟨er, her⟩ : ∃ er : Int, (if k = s.size then (3 : Int) else 2) = er := ⟨_, rfl⟩
            have hV : T = (none, k, er) := by
              refine words_stop (n := 0) hH.out ?_
              rw [hone, if_pos rfl, ← her]
              by_cases hks : k = s.size
              · rw [if_pos hks, if_pos (drop_end s k (by omega))]
              · rw [if_neg hks, if_neg (by rw [drop_at s k (by omega)]; simp)]
            have HST := Lib.hid (fun w => xStop s k er (Lib.hid her) hk w)
            have HBR := Lib.hid hbr
            subst hV
            clear hbr hone her hH hdl hsz
            rcases hway with e2 | ⟨e2, _, e3⟩
            all_goals (
              go_wp2_with fail
              rw [HQ.out, HWA.out]
              go_wp2_with fail
              refine (HBR.out _).mono ?_; rintro e w1 ⟨rfl, rfl⟩
              go_wp2_with fail
              refine (HST.out _).mono ?_; rintro e w1 ⟨rfl, rfl⟩
              go_wp2_with fail
              go_ret3
              have hBe := HB.out
              exact ⟨none, 0, rfl, World.ownsRow_nil _ _ _ _, by rw [hBe]; exact hba⟩)
          · have hone' : oneW (s.data.toList.drop k) = (some ((s.data.toList.drop k).take n, false), n, 0) := by rw [hone, if_neg hn0]
            have hxe : (⟨((s.data.toList.drop k).take n).toArray⟩ : ByteArray) = s.extract k (k + n) := by
              apply ByteArray.ext
              apply Array.toList_inj.1
              rw [ByteArray.data_extract, Array.toList_extract, List.extract_eq_take_drop, show k + n - k = n by omega]
            have hn' : k + n ≤ s.size := by omega
            have hn0' : ((n : Int) == 0) = false := ne_b (by omega)
            have e7 : (k : Int) ≤ (k : Int) + (n : Int) := by omega
            have e8 : (k : Int) + (n : Int) ≤ (s.size : Int) := by omega
            have hn1 : 1 ≤ n := by omega
            have HBR := Lib.hid hbr
            have HXE := Lib.hid hxe
            clear hbr hone hxe hdl hsz hn0
            rcases hway with e2 | ⟨e2, _, e3⟩
            · exact absurd hn' (by omega)
            · have e1 : (k : Int) < (s.size : Int) := e2
              go_wp2_with fail
              rw [HQ.out, HWA.out]
              go_wp2_with fail
              refine (HBR.out _).mono ?_; rintro e w1 ⟨rfl, rfl⟩
              have kb := ka
              have how1 := howa
              have hb2 := hba
              clear ka howa hba
              have dq := kb.at3
              have hr := Below.refl wa.heap.size wa
              go_upto_region 20 with fail
              rw [← HXE.out]
              generalize (s.data.toList.drop k).take n = x at hone' HXE ⊢
              clear HXE
              generalize hw2 : wa.setCell ⟨q, 0, none⟩ (.string (bt x)) = w2
              have kc : Blk w2 q 110 #[.string (bt x), .bool false, .int .i64 k] := by
                rw [← hw2]
                have := kb.set_ 0 (.string (bt x))
                simpa using this
              have g2 : wa.grownBy w2 (some q) := by rw [← hw2]; exact set_only (World.grownBy.refl _ _) _ _
              have hb3 : Below B w w2 := hb2.grown g2 (Nat.le_trans hBs hb2.size) (fun j hj => by cases hj; exact hqB)
              have how2 : OW 110 B w2 ao cap acc := World.ownsRow.kept how1 g2 (.inr (fun e => Nat.lt_irrefl _ (hrow q e)))
              clear hw2 g2 hb2 how1 kb dq hr
              have dq := kc.at3
              have hr := Below.refl w2.heap.size w2
              have hm : acc.length ≤ 1000000 := by omega
              go_wp2_with (at_builtin; refine wpList_append_elem infoWord rfl (by decide) (by decide) Tryz.underlying84 _ rfl _ _ rfl B _ _ _ rfl (World.ownsRow.alloc how2 _) w2.heap.size rfl (wcells ⟨x, false, k⟩) rfl ?tb1 ?tb2 hm ?tb3 ?tb4)
              case tb1 =>
                intro j u hj
                exact ((Blk.new w2 110 #[.string (bt x), .bool false, .int .i64 k]).cell j).trans (by rw [← hj]; simp [wcells])
              case tb2 =>
                intro u hu
                simp [wcells] at hu
                rcases hu with rfl | rfl | rfl <;> rfl
              case tb3 => have := hb3.size; simp; omega
              case tb4 =>
                intro ao' cap' w3 g3 g4
                have hb4 : Below B w w3 := orow_below (World.ownsRow.alloc how2 _) (hb3.alloc (by have := hb3.size; omega) _) g4 hBs
                have hl1 : (acc ++ [(⟨x, false, k⟩ : Wd)]).length = acc.length + 1 := by simp
                have how3 : OW 110 B w3 ao' cap' (acc ++ [⟨x, false, k⟩]) := by
                  unfold OW
                  rw [hl1, wsCells_snoc]
                  exact g3
                clear g3 g4 hb3 how2 kc dq hr
                have hr := Below.refl w3.heap.size w3
                by_cases hend : k + n = s.size
                · have hV := words_end hH.out hone' (by rw [List.drop_drop]; exact drop_end s _ (by omega))
                  have e5 : ((k : Int) + (n : Int) == (s.size : Int)) = true := by rw [beq_iff_eq]; omega
                  subst hV
                  clear hH hone' hend
                  go_wp2_with fail
                  go_ret3
                  have hBe := HB.out
                  exact ⟨ao', cap', by simp only [Option.getD_some, hl1]; rfl, by simpa using how3, by rw [hBe]; exact hb4⟩
                · have hlt2 : k + n < s.size := by omega
                  have e5 : ((k : Int) + (n : Int) == (s.size : Int)) = false := ne_b (by omega)
                  have e6 : (k : Int) + (n : Int) < (s.size : Int) := by omega
                  have hd2 := drop_at s (k + n) hlt2
                  rw [← List.drop_drop] at hd2
                  have hne2 : (s.data.toList.drop k).drop n ≠ [] := by rw [hd2]; simp
                  by_cases c32 : (s[k + n].toNat : Int) = 32
                  · have hV := words_go hH.out hone' hne2 (by rw [hd2, show s[k + n] = 32 from u8_eq (c := s[k + n]) (d := 32) c32]; rfl)
                    rw [List.drop_drop, ← Nat.add_assoc] at hV
                    have HV := Lib.hid hV
                    clear hV hd2 hne2 hH hone' hend
                    go_wp2_with fail
                    go_roundw
                    case rel => exact ⟨k + n + 1, ao', cap', acc ++ [⟨x, false, k⟩], by go_num, by rw [hl1], by omega, by omega, how3, hb4, HV⟩
                    case measure => simp [intOf]; omega
                  · have hV := words_bad hH.out hone' hne2 (by
                      rw [hd2]
                      intro e
                      exact c32 (by rw [show s[k + n] = 32 from by simpa using e]; rfl))
                    have c32b := ne_b c32
                    have hst := fun w => xStop s (k + n) 2 (Lib.hid (if_neg hend)) (by omega) w
                    have HST := Lib.hid hst
                    subst hV
                    clear hd2 hne2 hH hone' hend hst c32
                    go_wp2_with fail
                    refine (HST.out _).mono ?_; rintro e w4 ⟨rfl, rfl⟩
                    go_wp2_with fail
                    go_ret3
                    have hBe := HB.out
                    exact ⟨none, 0, rfl, World.ownsRow_nil _ _ _ _, by rw [hBe]; exact hb4⟩
end Go.Proofs.YtmnkekepccdlcaaGreatDoor
