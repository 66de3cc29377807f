/-
  Numbers' digits, and words joined.
  Conditions: the table of powers is laid.
-/
import Derived.Test.YtmnkekepccdlcaaGreatDoorLogK
import Derived.Test.YtmnkekepccdlcaaGreatDoorQuote
import Derived.Lib.Join
namespace Go.Proofs.YtmnkekepccdlcaaGreatDoor
set_option linter.unusedVariables false
set_option linter.unusedSimpArgs false
open Go.RowKit

/-- All numbers of an event are numbers of the machine; its bytes are not too many. -/
structure Ev64 (x : Ev) : Prop where
  id : i64 x.id
  n : i64 x.n
  tick : i64 x.tick
  err : i64 x.err
  sT : i64 x.sT
  sA : i64 x.sA
  sW : i64 x.sW
  sR : i64 x.sR
  sN : i64 x.sN
  sS : i64 x.sS
  bytes : x.bytes.size ≤ 20000
theorem lItoa (n : Int) (w : World) (hn : i64 n) (hp : Pow w) : Calls Tryz.prog 75 #[.int .i64 n] w fun e w' => e = .returned (.string ⟨(Lib.itoa n).toArray⟩) ∧ Below w.heap.size w w' := by
  unfold i64 at hn
  refine (Tryz.strconv_Itoa n (by omega) (by omega) w hp).mono ?_
  rintro e w' ⟨rfl, k, os, rfl⟩
  exact ⟨rfl, below_growD _ _ _⟩
theorem join_eq : ∀ l : List (List UInt8), Lib.join l [32] = joinL l
  | [] => rfl
  | [x] => Lib.join_one x [32]
  | x :: y :: l => by
    have ih := join_eq (y :: l)
    rw [Lib.join_cons] at ih ⊢
    show x ++ Lib.joinTail [32] (y :: l) = x ++ 32 :: joinL (y :: l)
    rw [← ih]
    rfl
theorem joinL_len : ∀ (l : List (List UInt8)), (∀ x ∈ l, x.length ≤ 100000) → (joinL l).length ≤ l.length * 100001
  | [], _ => by simp [joinL]
  | [x], h => by have := h x (by simp); simp [joinL]; omega
  | x :: y :: l, h => by
    have h1 := h x (by simp)
    have h2 := joinL_len (y :: l) (fun z hz => h z (by simp at hz ⊢; exact .inr hz))
    show (x ++ 32 :: joinL (y :: l)).length ≤ _
    rw [List.length_append, List.length_cons]
    simp only [List.length_cons] at h2 ⊢
    omega
theorem tJoin (ws : List (List UInt8)) (g cap : Nat) (w : World) (hk : WL w g ws) (hg : g < w.heap.size) (hc : ws.length ≤ cap) (h1 : ws.length ≤ 1000) (hz : ∀ x ∈ ws, x.length ≤ 100000) :
    Calls Tryz.prog 78 #[.slice (some ⟨g, 0, none⟩) ws.length cap, .string ⟨#[32]⟩] w fun e w' => e = .returned (.string ⟨(joinL ws).toArray⟩) ∧ Below w.heap.size w w' := by
  have hm : (ws.map fun l => (⟨l.toArray⟩ : ByteArray)).map (·.data.toList) = ws := by simp [List.map_map, Function.comp_def]
  have hl := joinL_len ws hz
  have := Tryz.strings_Join g 0 cap (ws.map fun l => (⟨l.toArray⟩ : ByteArray)) ⟨#[32]⟩ w (fun j x hx => by
    rw [Nat.zero_add]
    rw [List.getElem?_map] at hx
    obtain ⟨y, hy, rfl⟩ := Option.map_eq_some_iff.1 hx
    exact hk j y hy) hg (by rw [List.length_map]; omega) (by rw [List.length_map]; exact hc) (by
    rw [hm]
    show (Lib.join ws [32]).length ≤ _
    rw [join_eq]
    have : ws.length * 100001 ≤ 1000 * 100001 := Nat.mul_le_mul_right _ h1
    omega)
  rw [hm, List.length_map] at this
  have e : Lib.join ws (⟨#[32]⟩ : ByteArray).data.toList = joinL ws := join_eq ws
  rw [e] at this
  exact this
theorem itoa_len (n : Int) (h : i64 n) : (Lib.itoa n).length ≤ 100000 := by
  unfold i64 at h
  have := Lib.itoa_length_le n (by omega) (by omega)
  omega
theorem text_len (t : Int) (h : i64 t) : (textT t).length ≤ 100000 := by
  unfold textT
  split
  · decide
  · have h2 := ownT_le h
    have := Lib.itoa_length_le (ownT t) (by omega) (by omega)
    have e : Lib.itoa (ownT t) = Lib.decDigits (ownT t).toNat := by unfold Lib.itoa; rw [if_neg (by omega)]
    rw [e] at this
    omega
theorem quote_len (b : ByteArray) (h : b.size ≤ 20000) : (quoteT b.data.toList).length ≤ 100000 := by
  unfold quoteT
  have h1 := flat_len b.data.toList
  have h2 : b.data.toList.length = b.size := rfl
  simp only [List.length_cons, List.length_append, List.length_nil]
  omega
theorem word_len (l : List (List UInt8)) (hl : ∀ x ∈ l, x.length ≤ 100) (n : Int) : (wordT l n).length ≤ 100000 := by
  unfold wordT
  split
  · simp
  · cases h : l[n.toNat]? with
    | none => simp
    | some x => have := hl x (List.mem_of_getElem? h); simp; omega
theorem what_len (n : Int) : (whatT n).length ≤ 100000 := word_len _ (by decide) n
theorem stat_len (n : Int) : (statT n).length ≤ 100000 := word_len _ (by decide) n
end Go.Proofs.YtmnkekepccdlcaaGreatDoor
