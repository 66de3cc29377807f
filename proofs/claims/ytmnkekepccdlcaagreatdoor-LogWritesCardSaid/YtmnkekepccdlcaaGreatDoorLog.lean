/-
  The small parts of log: the words of steps and of dialogues, bounds, the bare event, which step and which event may be.
  Conditions: none.
-/
import Derived.Test.YtmnkekepccdlcaaGreatDoorLogBack
import Derived.Test.YtmnkekepccdlcaaGreatDoorOwn
import Derived.Laws.ResultCell
namespace Go.Proofs.YtmnkekepccdlcaaGreatDoor
set_option linter.unusedVariables false
set_option linter.unusedSimpArgs false
open Go.RowKit

/-- An event as a value. -/
abbrev evC (x : Ev) : Array Value := #[.int .i64 x.kind, .int .i64 x.id, .int .i64 x.n, .int .i64 x.tick, .string x.bytes, .int .i64 x.err, .int .i64 x.sT, .int .i64 x.sA, .int .i64 x.sW, .int .i64 x.sR, .int .i64 x.sN, .int .i64 x.sS]
abbrev stC (x : Ev) : Array Value := #[.int .i64 x.sT, .int .i64 x.sA, .int .i64 x.sW, .int .i64 x.sR, .int .i64 x.sN, .int .i64 x.sS]
theorem Blk.at12 {w : World} {g : Nat} {t : TypeId} {x0 x1 x2 x3 x4 x5 x6 x7 x8 x9 x10 x11 : Value} (h : Blk w g t #[x0, x1, x2, x3, x4, x5, x6, x7, x8, x9, x10, x11]) : ∀ w', Below w.heap.size w w' → w'.cell? ⟨g, 0, none⟩ = some x0 ∧ w'.cell? ⟨g, 1, none⟩ = some x1 ∧ w'.cell? ⟨g, 2, none⟩ = some x2 ∧ w'.cell? ⟨g, 3, none⟩ = some x3 ∧ w'.cell? ⟨g, 4, none⟩ = some x4 ∧ w'.cell? ⟨g, 5, none⟩ = some x5 ∧ w'.cell? ⟨g, 6, none⟩ = some x6 ∧ w'.cell? ⟨g, 7, none⟩ = some x7 ∧ w'.cell? ⟨g, 8, none⟩ = some x8 ∧ w'.cell? ⟨g, 9, none⟩ = some x9 ∧ w'.cell? ⟨g, 10, none⟩ = some x10 ∧ w'.cell? ⟨g, 11, none⟩ = some x11 ∧ ∀ i, w'.frozen? ⟨g, i, none⟩ = false := fun w' hb => ⟨h.at_ 0 rfl w' hb, h.at_ 1 rfl w' hb, h.at_ 2 rfl w' hb, h.at_ 3 rfl w' hb, h.at_ 4 rfl w' hb, h.at_ 5 rfl w' hb, h.at_ 6 rfl w' hb, h.at_ 7 rfl w' hb, h.at_ 8 rfl w' hb, h.at_ 9 rfl w' hb, h.at_ 10 rfl w' hb, h.at_ 11 rfl w' hb, fun i => h.free i w' hb⟩

theorem lIn (n a b : Int) (w : World) : Calls Tryz.prog 73 #[.int .i64 n, .int .i64 a, .int .i64 b] w fun e w' => e = .returned (.bool (inT n a b)) ∧ w = w' := by
  unfold inT
  by_cases h1 : a ≤ n <;> by_cases h2 : n ≤ b
  all_goals (
    go_enter Tryz.func73, Tryz.ntmps73
    go_wp2_with fail
    go_ret
    simp [h1, h2])
abbrev whatsC : Array Value := (whatsL.map fun l => Value.string ⟨l.toArray⟩).toArray
abbrev statsC : Array Value := (statsL.map fun l => Value.string ⟨l.toArray⟩).toArray
theorem lWhats (w : World) : Calls Tryz.prog 47 #[] w fun e w' => e = .returned (.slice (some ⟨w.heap.size, 0, none⟩) 15 15) ∧ w' = w.alloc (.cells whatsC 9) := by
  go_enter Tryz.func47, Tryz.ntmps47
  go_wp2_with fail
  go_ret
  exact ⟨rfl, rfl⟩
theorem lStats (w : World) : Calls Tryz.prog 48 #[] w fun e w' => e = .returned (.slice (some ⟨w.heap.size, 0, none⟩) 6 6) ∧ w' = w.alloc (.cells statsC 9) := by
  go_enter Tryz.func48, Tryz.ntmps48
  go_wp2_with fail
  go_ret
  exact ⟨rfl, rfl⟩
theorem lWord (l : List (List UInt8)) (g : Nat) (n : Int) (w : World) (hn : i64 n) (hl : l.length ≤ 100) (hk : ∀ (i : Nat) (x : List UInt8), l[i]? = some x → w.cell? ⟨g, i, none⟩ = some (.string ⟨x.toArray⟩)) :
    Calls Tryz.prog 46 #[.slice (some ⟨g, 0, none⟩) l.length l.length, .int .i64 n] w fun e w' => e = .returned (.string ⟨(wordT l n).toArray⟩) ∧ w = w' := by
  have HK := Lib.hid hk
  clear hk
  unfold wordT
  by_cases h : 0 ≤ n
  · obtain ⟨k, rfl⟩ : ∃ k : Nat, n = k := ⟨n.toNat, by omega⟩
    rw [if_neg (by omega)]
    by_cases h2 : k < l.length
    · have hc := HK.out k l[k] (by rw [List.getElem?_eq_getElem h2])
      have he : l[k]? = some l[k] := List.getElem?_eq_getElem h2
      simp only [Int.toNat_natCast, he, Option.getD_some]
      have f1 : ¬ (l.length : Int) ≤ (k : Int) := by omega
      have f2 : (k : Int) < (l.length : Int) := by omega
      go_enter Tryz.func46, Tryz.ntmps46
      go_wp2_with fail
      go_ret
      exact ⟨rfl, rfl⟩
    · have he : l[k]? = none := List.getElem?_eq_none (by omega)
      simp only [Int.toNat_natCast, he, Option.getD_none]
      have f1 : (l.length : Int) ≤ (k : Int) := by omega
      go_enter Tryz.func46, Tryz.ntmps46
      go_wp2_with fail
      go_ret
      exact ⟨rfl, rfl⟩
  · rw [if_pos (by omega)]
    have f1 : n < 0 := by omega
    go_enter Tryz.func46, Tryz.ntmps46
    go_wp2_with fail
    go_ret
    exact ⟨rfl, rfl⟩
theorem lWhat (n : Int) (w : World) (hn : i64 n) : Calls Tryz.prog 18 #[.int .i64 n] w fun e w' => e = .returned (.string ⟨(whatT n).toArray⟩) ∧ Below w.heap.size w w' := by
  go_enter Tryz.func18, Tryz.ntmps18
  go_wp2_with fail
  refine (lWhats _).mono ?_; rintro e w1 ⟨rfl, rfl⟩
  have hk := Blk.new w 9 whatsC
  have hb : Below w.heap.size w (w.alloc (.cells whatsC 9)) := (Below.refl _ _).alloc (Nat.le_refl _) _
  generalize w.alloc (.cells whatsC 9) = w1 at *
  go_wp2_with fail
  refine (lWord whatsL _ n _ hn (by decide) (fun i x hx => (hk.cell i).trans (by simp only [whatsC, List.getElem?_toArray, List.getElem?_map, hx, Option.map_some]))).mono ?_; rintro e w2 ⟨rfl, rfl⟩
  go_wp2_with fail
  go_ret
  exact ⟨rfl, hb⟩
theorem lStatus (n : Int) (w : World) (hn : i64 n) : Calls Tryz.prog 20 #[.int .i64 n] w fun e w' => e = .returned (.string ⟨(statT n).toArray⟩) ∧ Below w.heap.size w w' := by
  go_enter Tryz.func20, Tryz.ntmps20
  go_wp2_with fail
  refine (lStats _).mono ?_; rintro e w1 ⟨rfl, rfl⟩
  have hk := Blk.new w 9 statsC
  have hb : Below w.heap.size w (w.alloc (.cells statsC 9)) := (Below.refl _ _).alloc (Nat.le_refl _) _
  generalize w.alloc (.cells statsC 9) = w1 at *
  go_wp2_with fail
  refine (lWord statsL _ n _ hn (by decide) (fun i x hx => (hk.cell i).trans (by simp only [statsC, List.getElem?_toArray, List.getElem?_map, hx, Option.map_some]))).mono ?_; rintro e w2 ⟨rfl, rfl⟩
  go_wp2_with fail
  go_ret
  exact ⟨rfl, hb⟩
end Go.Proofs.YtmnkekepccdlcaaGreatDoor
