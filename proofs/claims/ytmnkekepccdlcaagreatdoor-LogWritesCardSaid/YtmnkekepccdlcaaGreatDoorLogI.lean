/-
  The parts of reading an event: a word by its number, numbers, ticks, texts in quotes.
  Conditions: the words are short; the errors of strconv stand in their variables.
-/
import Derived.Test.YtmnkekepccdlcaaGreatDoorLogH
import Derived.Test.YtmnkekepccdlcaaGreatDoorQuote2
namespace Go.Proofs.YtmnkekepccdlcaaGreatDoor
set_option linter.unusedVariables false
set_option linter.unusedSimpArgs false
open Go.RowKit

theorem bt_size (l : List UInt8) : (⟨l.toArray⟩ : ByteArray).size = l.length := by show l.toArray.size = _; simp
theorem lNumberL (l : List UInt8) (hs : l.length ≤ 100000) (w : World) (he : EnvL w) : Calls Tryz.prog 101 #[.string ⟨l.toArray⟩] w fun e w' => e = .returned (.int .i64 (numT l)) ∧ Below w.heap.size w w' := by
  have := lNumber ⟨l.toArray⟩ (by rw [bt_size]; exact hs) w he
  simpa using this
theorem tParseL (l : List UInt8) (hs : l.length ≤ 100000) (w : World) (he : EnvL w) : Calls Tryz.prog 102 #[.string ⟨l.toArray⟩] w fun e w' => e = .returned (.tuple #[.int .i64 (parseT l).1, .int .i64 (parseT l).2]) ∧ Below w.heap.size w w' := by
  have := tParse ⟨l.toArray⟩ (by rw [bt_size]; exact hs) w he.range
  simpa using this
theorem qWholeL (l : List UInt8) (hs : l.length ≤ 100000) (w : World) : Calls Tryz.prog 103 #[.string ⟨l.toArray⟩] w fun e w' => ∃ er : Int, e = .returned (.tuple #[.string ⟨(wholeL l).toArray⟩, .int .i64 er]) ∧ Below w.heap.size w w' := by
  refine (qWhole ⟨l.toArray⟩ (by rw [bt_size]; exact hs) w).mono ?_
  rintro e w' ⟨rfl, hb⟩
  have hd : (⟨l.toArray⟩ : ByteArray).data.toList = l := by simp
  rw [hd, bt_size]
  unfold whV wholeL
  cases h : (readT l).1 with
  | none => exact ⟨_, rfl, hb⟩
  | some t =>
    by_cases h2 : (readT l).2 < l.length
    · exact ⟨2, by simp [h2], hb⟩
    · exact ⟨0, by simp [h2], hb⟩

theorem atW_len {ws : List (List UInt8)} (hz : ∀ x ∈ ws, x.length ≤ 100000) (k : Nat) : (atW ws k).length ≤ 100000 := by
  unfold atW
  cases h : ws[k]? with
  | none => simp
  | some x => exact hz x (List.mem_of_getElem? h)

theorem lAt (q g cap : Nat) (ws : List (List UInt8)) (k : Nat) (w : World) (hk : Blk w q 45 #[.slice (some ⟨g, 0, none⟩) ws.length cap]) (hw : WL w g ws) (hl : ws.length ≤ 1000000) (hk1 : k ≤ 100) :
    Calls Tryz.prog 100 #[.int .i64 (k : Int), .pointer (some ⟨q, 0, none⟩)] w fun e w' => e = .returned (.string ⟨(atW ws k).toArray⟩) ∧ w = w' := by
  have c0 := hk.cell 0
  have c0 : w.cell? ⟨q, 0, none⟩ = some (.slice (some ⟨g, 0, none⟩) ws.length cap) := c0
  by_cases h : k < ws.length
  · have hc := hw k ws[k] (List.getElem?_eq_getElem h)
    have he : atW ws k = ws[k] := by unfold atW; rw [List.getElem?_eq_getElem h]; rfl
    rw [he]
    have e1 : (k : Int) < (ws.length : Int) := by omega
    have e2 : ¬ (ws.length : Int) ≤ (k : Int) := by omega
    clear hk hw
    go_enter Tryz.func100, Tryz.ntmps100
    go_wp2_with fail
    go_ret
    exact ⟨rfl, rfl⟩
  · have he : atW ws k = [] := by unfold atW; rw [List.getElem?_eq_none (by omega)]; rfl
    rw [he]
    have e1 : ¬ (k : Int) < (ws.length : Int) := by omega
    clear hk hw
    go_enter Tryz.func100, Tryz.ntmps100
    go_wp2_with fail
    go_ret
    exact ⟨rfl, rfl⟩
end Go.Proofs.YtmnkekepccdlcaaGreatDoor
