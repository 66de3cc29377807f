/-
  Contracts of package lex and of its reference, last part: words joined by the reference; the same words; which lines say nothing; a text's lines.
  Conditions: a text of at most 100000 bytes; words of so many bytes together.
-/
import Derived.Test.YtmnkekepccdlcaaGreatDoorLex4
import Derived.Lib.SplitLaws
namespace Go.Proofs.YtmnkekepccdlcaaGreatDoor
set_option linter.unusedVariables false
set_option linter.unusedSimpArgs false
open Go.RowKit

theorem joinT_snoc : ∀ (l : List Wd) (x : Wd), joinT (l ++ [x]) = if l = [] then wordB x else joinT l ++ 32 :: wordB x
  | [], _ => rfl
  | [y], x => rfl
  | y :: z :: l, x => by
    have := joinT_snoc (z :: l) x
    rw [if_neg (by simp)] at this ⊢
    show wordB y ++ 32 :: joinT (z :: l ++ [x]) = (wordB y ++ 32 :: joinT (z :: l)) ++ 32 :: wordB x
    rw [this]
    simp
theorem joinT_take (l : List Wd) : ∀ k, k ≤ l.length → (joinT (l.take k)).length ≤ (joinT l).length := by
  have h : ∀ (n k : Nat), k + n = l.length → (joinT (l.take k)).length ≤ (joinT l).length := by
    intro n
    induction n with
    | zero => intro k hk; rw [List.take_of_length_le (by omega)]; exact Nat.le_refl _
    | succ n ih =>
      intro k hk
      have h1 := ih (k + 1) (by omega)
      rw [List.take_succ_eq_append_getElem (by omega), joinT_snoc] at h1
      split at h1
      · rename_i h2
        rw [h2]
        exact Nat.zero_le _
      · rw [List.length_append] at h1
        omega
  intro k hk
  exact h (l.length - k) k (by omega)

end Go.Proofs.YtmnkekepccdlcaaGreatDoor

namespace Go.Proofs.YtmnkekepccdlcaaGreatDoor
set_option linter.unusedVariables false
set_option linter.unusedSimpArgs false
open Go.RowKit

theorem xLines (s : ByteArray) (m : Int) (w : World) (hs : s.size ≤ 100000) (hm : w.cell? ⟨0, 0, none⟩ = some (.int .i64 m)) :
    Calls Tryz.prog 53 #[.string s] w (LinesPost w.heap.size (linesL s.data.toList) w) := by
  have hsp := Tryz.strings_Split s ⟨#[10]⟩ m w (by omega) hm (by decide)
  have hcount : Lib.countB s ⟨#[10]⟩ = s.data.toList.count 10 := Lib.count_one 10 s.data.toList
  have hdat : (Lib.splitB ⟨#[10]⟩ 0 (Lib.countB s ⟨#[10]⟩) s).map (fun x : ByteArray => x.data.toList) = linesL s.data.toList := by
    rw [Lib.splitB_data, hcount]
    exact split_lines _ _ (Nat.le_refl _)
  have hlen : (linesL s.data.toList).length = Lib.countB s ⟨#[10]⟩ + 1 := by
    rw [← hdat, List.length_map, Lib.splitB_all _ (by decide) 0 _ s rfl]
  have hle := Lib.countB_le ⟨#[10]⟩ (by decide) s.size s (Nat.le_refl _)
  rw [← hlen] at hsp
  have hcells : (Lib.splitB ⟨#[10]⟩ 0 (Lib.countB s ⟨#[10]⟩) s).map Value.string = scells (linesL s.data.toList) := by
    rw [← hdat]
    unfold scells
    rw [List.map_map]
    apply List.map_congr_left
    intro x _
    show Value.string x = Value.string ⟨x.data.toList.toArray⟩
    congr 1
  rw [hcells] at hsp
  have hll : (linesL s.data.toList).length ≤ 100001 := by omega
  generalize linesL s.data.toList = L at *
  have HSP := Lib.hid hsp
  clear hsp hcount hdat hlen hcells
  go_enter Tryz.func53, Tryz.ntmps53
  go_wp2_with fail
  refine HSP.out.mono ?_; rintro e w1 ⟨rfl, rfl⟩
  go_wp2_with fail
  go_ret
  refine ⟨some ⟨w.heap.size, 0, none⟩, L.length, rfl, ⟨by simp [scells], .inr ⟨w.heap.size, L.length, (scells L).toArray, rfl, Nat.le_refl _, heap_alloc_new w _, Nat.le_refl _, by unfold maxLen; omega, by simp [scells], ?_⟩⟩, (Below.refl _ _).alloc (Nat.le_refl _) _⟩
  rw [Nat.mul_one]
  exact List.take_of_length_le (by simp [scells])

/-- Does a line say nothing? -/
def idleB (l : List UInt8) : Bool := match l with | [] => true | c :: _ => c == 35
theorem xIdle (s : ByteArray) (w : World) : Calls Tryz.prog 54 #[.string s] w fun e w' => e = .returned (.bool (idleB s.data.toList)) ∧ w = w' := by
  rcases Nat.eq_zero_or_pos s.size with h | h
  · obtain rfl : s = ⟨#[]⟩ := ByteArray.ext (Array.eq_empty_of_size_eq_zero h)
    go_enter Tryz.func54, Tryz.ntmps54
    go_wp2_with fail
    go_ret
    exact ⟨rfl, rfl⟩
  · have hd := drop_at s 0 h
    rw [List.drop_zero] at hd
    have hne : s.toList.isEmpty = false := by rw [ByteArray.toList_eq, hd]; rfl
    have hV : idleB s.data.toList = ((s[0].toNat : Int) == 35) := by
      rw [hd]
      show (s[0] == 35) = _
      by_cases e : s[0] = 35
      · rw [e]; rfl
      · rw [beq_eq_false_iff_ne.2 e, ne_b (fun h => e (u8_eq (c := s[0]) (d := 35) h))]
    rw [hV]
    clear hV hd
    go_enter Tryz.func54, Tryz.ntmps54
    go_wp2_with fail
    go_ret
    exact ⟨rfl, rfl⟩
theorem yIdle (s : ByteArray) (w : World) : Calls Tryz.prog 58 #[.string s] w fun e w' => e = .returned (.bool (idleB s.data.toList)) ∧ w = w' := by
  rcases Nat.eq_zero_or_pos s.size with h | h
  · obtain rfl : s = ⟨#[]⟩ := ByteArray.ext (Array.eq_empty_of_size_eq_zero h)
    go_enter Tryz.func58, Tryz.ntmps58
    go_wp2_with fail
    go_ret
    exact ⟨rfl, rfl⟩
  · have hd := drop_at s 0 h
    rw [List.drop_zero] at hd
    have hne : s.toList.isEmpty = false := by rw [ByteArray.toList_eq, hd]; rfl
    have hV : idleB s.data.toList = ((s[0].toNat : Int) == 35) := by
      rw [hd]
      show (s[0] == 35) = _
      by_cases e : s[0] = 35
      · rw [e]; rfl
      · rw [beq_eq_false_iff_ne.2 e, ne_b (fun h => e (u8_eq (c := s[0]) (d := 35) h))]
    rw [hV]
    clear hV hd
    go_enter Tryz.func58, Tryz.ntmps58
    go_wp2_with fail
    go_ret
    exact ⟨rfl, rfl⟩

end Go.Proofs.YtmnkekepccdlcaaGreatDoor
