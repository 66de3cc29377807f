/-
  The parts of reading a line: numbers, the place of a word among words.
  Conditions: the errors of strconv stand in their variables.
-/
import Derived.Test.YtmnkekepccdlcaaGreatDoorLogF
import Derived.Test.YtmnkekepccdlcaaGreatDoorTickV
namespace Go.Proofs.YtmnkekepccdlcaaGreatDoor
set_option linter.unusedVariables false
set_option linter.unusedSimpArgs false
open Go.RowKit

abbrev SyntV (w : World) : Prop := ∃ t p, w.cell? ⟨4, 0, none⟩ = some (.iface t p)
abbrev MaxV (w : World) : Prop := ∃ m, w.cell? ⟨0, 0, none⟩ = some (.int .i64 m)
/-- What the variables hold that reading and writing look at. -/
structure EnvL (w : World) : Prop where
  pow : Pow w
  range : RangeV w
  synt : SyntV w
  maxl : MaxV w
theorem cellE_later {w w' : World} {g : Nat} {v : Value} (h : w.cell? ⟨g, 0, none⟩ = some v) (hb : Below w.heap.size w w') : w'.cell? ⟨g, 0, none⟩ = some v := (hb.cell (p := ⟨g, 0, none⟩) (block_lt h)).trans h
theorem EnvL.later {w w' : World} (h : EnvL w) (hb : Below w.heap.size w w') : EnvL w' :=
  ⟨pow_later h.pow hb, range_later h.range hb, (by obtain ⟨t, p, e⟩ := h.synt; exact ⟨t, p, cellE_later e hb⟩), (by obtain ⟨m, e⟩ := h.maxl; exact ⟨m, cellE_later e hb⟩)⟩

theorem lNumber (s : ByteArray) (hs : s.size ≤ 100000) (w : World) (he : EnvL w) : Calls Tryz.prog 101 #[.string s] w fun e w' => e = .returned (.int .i64 (numT s.data.toList)) ∧ Below w.heap.size w w' := by
  obtain ⟨tr, pr, hr⟩ := he.range
  obtain ⟨ts, ps, hy⟩ := he.synt
  cases h : Lib.atoiAll s.data.toList
  · rename_i v
    have hn := Lib.hid (show numT s.data.toList = v by unfold numT; rw [h])
    have F := Lib.hid (Tryz.strconv_Atoi_ok s (by omega) v h w)
    clear hr hy h he
    go_enter Tryz.func101, Tryz.ntmps101
    go_wp2_with fail
    refine F.out.mono ?_; rintro e w1 ⟨rfl, hw⟩
    have hb := below_one hw
    clear hw
    go_wp2_with fail
    go_ret
    exact ⟨by rw [hn.out]; rfl, hb⟩
  · have hn := Lib.hid (show numT s.data.toList = 0 by unfold numT; rw [h])
    have F := Lib.hid (Any.strconv_Atoi_syntax Tryz.laysC172 s (by omega) h (.iface ts ps) w hy (.inr ⟨_, _, rfl⟩))
    clear hr hy h he
    go_enter Tryz.func101, Tryz.ntmps101
    go_wp2_with fail
    refine F.out.mono ?_; rintro e w1 ⟨N, rfl, -, -, hb⟩
    go_wp2_with fail
    go_ret
    exact ⟨by rw [hn.out]; rfl, hb⟩
  · have hn := Lib.hid (show numT s.data.toList = Lib.atoiSat s.data.toList by unfold numT; rw [h])
    have F := Lib.hid (Tryz.strconv_Atoi_range s (by omega) h (.iface tr pr) w hr (.inr ⟨_, _, rfl⟩))
    clear hr hy h he
    go_enter Tryz.func101, Tryz.ntmps101
    go_wp2_with fail
    refine F.out.mono ?_; rintro e w1 ⟨N, rfl, -, -, hb⟩
    go_wp2_with fail
    go_ret
    exact ⟨by rw [hn.out]; rfl, hb⟩

/-- Words that lie in a block. -/
def WL (w : World) (g : Nat) (ws : List (List UInt8)) : Prop := ∀ (i : Nat) (x : List UInt8), ws[i]? = some x → w.cell? ⟨g, i, none⟩ = some (.string ⟨x.toArray⟩)
theorem WL.later {w w' : World} {g : Nat} {ws : List (List UInt8)} (h : WL w g ws) (hb : Below w.heap.size w w') : WL w' g ws := fun i x hx => (hb.cell (p := ⟨g, i, none⟩) (block_lt (h i x hx))).trans (h i x hx)
theorem wl_of {w : World} {g : Nat} {ws : List (List UInt8)} (h : Blk w g 9 (ws.map fun l => Value.string ⟨l.toArray⟩).toArray) : WL w g ws := fun i x hx => (h.cell i).trans (by simp [hx])

theorem idxF_ge (x : List UInt8) : ∀ (l : List (List UInt8)) (i : Int), idxF x l i = -1 ∨ i ≤ idxF x l i
  | [], i => .inl rfl
  | y :: r, i => by
    unfold idxF
    split
    · exact .inr (Int.le_refl _)
    · rcases idxF_ge x r (i + 1) with h | h
      · exact .inl h
      · exact .inr (by omega)
theorem bt_beq {x y : List UInt8} (h : x ≠ y) : ((⟨x.toArray⟩ : ByteArray).toList == (⟨y.toArray⟩ : ByteArray).toList) = false := by
  rw [Lib.toList_data, Lib.toList_data]
  exact beq_eq_false_iff_ne.2 (by simpa using h)

set_option maxHeartbeats 1000000 in
theorem lIndex (ws : List (List UInt8)) (g cap : Nat) (x : List UInt8) (w : World) (hw : WL w g ws) (hl : ws.length ≤ 1000) :
    Calls Tryz.prog 104 #[.slice (some ⟨g, 0, none⟩) ws.length cap, .string ⟨x.toArray⟩] w fun e w' => e = .returned (.int .i64 (idxF x ws 0)) ∧ w = w' := by
  have HW := Lib.hid hw
  clear hw
  go_enter Tryz.func104, Tryz.ntmps104
  go_wp2_with fail
  go_loop [5, 8] (fun _ i => ∃ k : Nat, k ≤ ws.length ∧ i = .int .i64 k ∧ idxF x (ws.drop k) k = idxF x ws 0) (fun _ i => ws.length - (intOf i).toNat)
  case atStart => exact ⟨0, Nat.zero_le _, rfl, rfl⟩
  case round =>
    obtain ⟨k, hk, rfl, hI⟩ := hrel
    by_cases hlt : k < ws.length
    · have hd : ws.drop k = ws[k] :: ws.drop (k + 1) := List.drop_eq_getElem_cons hlt
      have hc := HW.out k ws[k] (List.getElem?_eq_getElem hlt)
      rw [hd] at hI
      have e1 : (k : Int) < (ws.length : Int) := by omega
      generalize ws[k] = y at *
      by_cases hxy : x = y
      · subst hxy
        have HI := Lib.hid (show idxF x ws 0 = (k : Int) by rw [← hI]; unfold idxF; rw [if_pos rfl])
        clear hI hd
        go_wp2_with fail
        go_ret
        exact ⟨by rw [HI.out]; rfl, rfl⟩
      · have f1 : (x == y) = false := beq_eq_false_iff_ne.2 hxy
        have HI := Lib.hid (show idxF x (ws.drop (k + 1)) ((k + 1 : Nat) : Int) = idxF x ws 0 by rw [← hI, show ((k + 1 : Nat) : Int) = (k : Int) + 1 by omega]; conv => rhs; unfold idxF; rw [if_neg hxy])
        clear hI hd hxy
        go_wp2_with fail
        exact ⟨⟨k + 1, by omega, by simp, HI.out⟩, by simp [intOf]; omega⟩
    · obtain rfl : k = ws.length := by omega
      rw [List.drop_length] at hI
      have HI := Lib.hid (show idxF x ws 0 = -1 from hI.symm)
      clear hI
      go_wp2_with fail
      go_ret
      exact ⟨by rw [HI.out]; rfl, rfl⟩
end Go.Proofs.YtmnkekepccdlcaaGreatDoor
