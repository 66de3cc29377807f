/-
  How long the words of a line are, and how great the numbers of what is read of it.
  Conditions: none; no program is named.
-/
import Derived.Test.YtmnkekepccdlcaaGreatDoorLogM
namespace Go.Proofs.YtmnkekepccdlcaaGreatDoor
set_option linter.unusedVariables false
set_option linter.unusedSimpArgs false

theorem splitK_facts : ∀ (k : Nat) (s : List UInt8), 1 ≤ (Lib.splitK [32] 0 k s).length ∧ (Lib.splitK [32] 0 k s).length ≤ k + 1 ∧ ∀ x ∈ Lib.splitK [32] 0 k s, x.length ≤ s.length
  | 0, s => ⟨Nat.le_refl _, Nat.le_refl _, by intro x hx; simp [Lib.splitK] at hx; rw [hx]; exact Nat.le_refl _⟩
  | k + 1, s => by
    unfold Lib.splitK
    split
    · exact ⟨Nat.le_refl _, by simp, by intro x hx; simp at hx; rw [hx]; exact Nat.le_refl _⟩
    · obtain ⟨h1, h2, h3⟩ := splitK_facts k (s.drop ((Lib.index s [32]).toNat + [32].length))
      refine ⟨by simp, Nat.succ_le_succ h2, ?_⟩
      intro x hx
      rcases List.mem_cons.1 hx with rfl | hx
      · rw [List.length_take]; omega
      · have := h3 x hx
        rw [List.length_drop] at this
        omega
theorem splitT_facts (l : List UInt8) : 1 ≤ (splitT l).length ∧ (splitT l).length ≤ l.length + 5 ∧ ∀ x ∈ splitT l, x.length ≤ l.length := by
  obtain ⟨h1, h2, h3⟩ := splitK_facts (min 3 (l.length + 1) - 1) l
  have e : Lib.splitN l [32] 3 = Lib.splitK [32] 0 (min 3 (l.length + 1) - 1) l := rfl
  have hm : min 3 (l.length + 1) ≤ 3 := Nat.min_le_left _ _
  unfold splitT
  rw [e]
  generalize Lib.splitK [32] 0 (min 3 (l.length + 1) - 1) l = L at *
  show 1 ≤ (if _ then _ else _ : List (List UInt8)).length ∧ _
  by_cases hc : L.length < 3 ∨ atW L 0 = wRead ∨ atW L 0 = wWrite
  · rw [if_pos hc]
    exact ⟨h1, by omega, h3⟩
  · rw [if_neg hc]
    have h4 : 3 ≤ L.length := by omega
    obtain ⟨g1, g2, g3⟩ := splitK_facts (Lib.count (atW L 2) [32]) (atW L 2)
    have ha : atW L 2 ∈ L := by
      unfold atW
      rw [List.getElem?_eq_getElem (by omega)]
      exact List.getElem_mem _
    have hal := h3 _ ha
    have hcl := Lib.count_le (atW L 2) [32]
    refine ⟨by rw [List.length_append]; unfold Lib.split; omega, ?_, ?_⟩
    · rw [List.length_append, List.length_take]; unfold Lib.split; omega
    · intro x hx
      rcases List.mem_append.1 hx with hx | hx
      · exact h3 x (List.mem_of_mem_take hx)
      · exact Nat.le_trans (g3 x hx) hal
theorem rdL_len : ∀ (t r : List UInt8), (rdL t).1 = some r → r.length ≤ (rdL t).2 := by
  intro t
  refine rd_ind (Q := fun t => ∀ r, (rdL t).1 = some r → r.length ≤ (rdL t).2) ?_ ?_ ?_ t.length t (Nat.le_refl _)
  · intro t h r hr
    rw [rdL_end h] at hr ⊢
    simp at hr
    subst hr; simp
  · intro t h h1 r hr
    rw [rdL_stop h h1] at hr
    cases hr
  · intro t b h h1 ih r hr
    have hn := oneL_some h1
    rw [rdL_go h h1] at hr ⊢
    simp only [Option.map_eq_some_iff] at hr
    obtain ⟨r', hr', rfl⟩ := hr
    have := ih r' hr'
    simp only [List.length_cons]
    omega
theorem idxF_bd (x : List UInt8) : ∀ (l : List (List UInt8)) (i : Int), -1 ≤ i → -1 ≤ idxF x l i ∧ idxF x l i ≤ i + l.length
  | [], i, h => ⟨by simp [idxF], by simp [idxF]; omega⟩
  | y :: r, i, h => by
    unfold idxF
    split
    · exact ⟨h, by omega⟩
    · have := idxF_bd x r (i + 1) (by omega)
      simp only [List.length_cons]
      omega
theorem whole_len (l : List UInt8) : (wholeL l).length ≤ l.length := by
  unfold wholeL
  cases h : (readT l).1 with
  | none => simp
  | some t =>
    show (if (readT l).2 < l.length then [] else t).length ≤ _
    split
    · simp
    · have hle := readT_le l
      cases l with
      | nil => simp [readT] at h
      | cons c r =>
        have e : readT (c :: r) = if c = 34 then ((rdL r).1, 1 + (rdL r).2) else (none, 0) := rfl
        by_cases hc : c = 34
        · rw [e, if_pos hc] at h hle
          have := rdL_len r t h
          simp only [List.length_cons] at hle ⊢
          omega
        · rw [e, if_neg hc] at h
          cases h
theorem z64 : i64 0 := by unfold i64; omega
theorem k64 {n : Int} (h : 0 ≤ n) (h2 : n ≤ 100) : i64 n := by unfold i64; omega
theorem idx_64 (x : List UInt8) (l : List (List UInt8)) (hl : l.length ≤ 100) : i64 (idxF x l 0) := by
  have := idxF_bd x l 0 (by omega)
  unfold i64; omega
theorem some_64 (ws : List (List UInt8)) (hz : ∀ k, (atW ws k).length ≤ 20000) : Ev64 (someT ws) := by
  have hn : i64 ((wholeL (atW ws 2)).length : Int) := by
    have := whole_len (atW ws 2); have := hz 2; unfold i64; omega
  have hb : (⟨(wholeL (atW ws 2)).toArray⟩ : ByteArray).size ≤ 20000 := by
    have := whole_len (atW ws 2); have := hz 2; rw [bt_size]; omega
  have hb0 : (⟨#[]⟩ : ByteArray).size ≤ 20000 := by decide
  unfold someT
  simp only
  repeat' split
  all_goals (constructor <;> first | exact z64 | exact num_i64 _ | exact parse_i64 _ | exact hn | exact hb | exact hb0 | exact idx_64 _ _ (by decide))
end Go.Proofs.YtmnkekepccdlcaaGreatDoor
