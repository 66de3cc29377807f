/-
  Plain law: the rounds that a text is are good.
  Conditions: none; no program is named.
-/
import Derived.Test.YtmnkekepccdlcaaGreatDoorWgF
namespace Go.Proofs.YtmnkekepccdlcaaGreatDoor
set_option linter.unusedVariables false
set_option linter.unusedSimpArgs false

theorem parse_nn (l : List UInt8) : 0 ≤ (parseT l).1 := by
  unfold parseT
  split
  · decide
  · split
    · split
      · decide
      · exact Int.natCast_nonneg _
    · decide
theorem num_in {most : Int} {x : List UInt8} (h : (numW most x).2 = 0) : inT (numW most x).1 0 most = true := by
  unfold numW at *
  split at h
  · cases h
  · rename_i hc
    rw [if_neg hc]
    have hm : ¬ most < (parseT x).1 := fun e => hc ⟨h, e⟩
    have := parse_nn x
    unfold inT
    simp
    omega
section
variable {W : List Wd} {len i : Nat}
theorem f_num_in {most n : Int} (h : fNum W len i most = .ok n) : inT n 0 most = true := by
  unfold fNum at h
  split at h
  · cases h
  · rename_i x _
    cases hq : x.quoted
    · simp only [hq, Bool.false_eq_true, if_false] at h
      by_cases h0 : (numW most x.text).2 = 0
      · rw [if_pos h0] at h
        cases h
        exact num_in h0
      · rw [if_neg h0] at h
        cases h
    · simp only [hq, if_true] at h
      cases h
theorem f_txt_in {t : List UInt8} (h : fTxt W len i = .ok t) : t.length ≤ 256 := by
  unfold fTxt at h
  split at h
  · cases h
  · rename_i x _
    cases hq : x.quoted
    · simp only [hq, Bool.false_eq_true, if_false] at h
      cases h
    · simp only [hq, if_true] at h
      by_cases h0 : 256 < x.text.length
      · rw [if_pos h0] at h
        cases h
      · rw [if_neg h0] at h
        cases h
        omega
end
theorem bind_ok {α β : Type} {X : Res α} {f : α → Res β} {v : β} (h : X.bind f = .ok v) : ∃ a, X = .ok a ∧ f a = .ok v := by
  cases X with
  | error e => cases h
  | ok a => exact ⟨a, rfl, h⟩
theorem upd_good {rs : List Rd} {f : Rd → Rd} (h : ∀ r ∈ rs, goodR r = true) (hf : ∀ r ∈ rs, goodR r = true → goodR (f r) = true) : ∀ r ∈ upd rs f, goodR r = true := by
  intro r hr
  unfold upd at hr
  rcases List.mem_append.1 hr with h1 | h1
  · exact h r (List.dropLast_subset _ h1)
  · cases hl : rs.getLast? with
    | none => rw [hl] at h1; cases h1
    | some y =>
      rw [hl] at h1
      simp at h1
      subst h1
      have hy : y ∈ rs := List.mem_of_getLast? hl
      exact hf y hy (h y hy)
theorem say_good {rs rs' : List Rd} {W : List Wd} {len : Nat} (h : ∀ r ∈ rs, goodR r = true) (hs : sayT rs W len = .ok rs') : ∀ r ∈ rs', goodR r = true := by
  unfold sayT at hs
  simp only at hs
  split at hs
  · cases hs
  rename_i hp
  split at hs
  · obtain ⟨n, h1, hs⟩ := bind_ok hs
    obtain ⟨_, _, hs⟩ := bind_ok hs
    cases hs
    have hn := f_num_in h1
    intro r hr
    rcases List.mem_append.1 hr with hr | hr
    · exact h r hr
    · simp at hr
      subst hr
      unfold goodR
      simp only [rd0]
      rw [hn]
      decide
  split at hs
  · obtain ⟨n, h1, hs⟩ := bind_ok hs
    obtain ⟨_, _, hs⟩ := bind_ok hs
    cases hs
    have hn := f_num_in h1
    refine upd_good h fun r _ hg => ?_
    simp [goodR] at hg ⊢
    obtain ⟨⟨⟨⟨g1, g2⟩, g3⟩, g4⟩, g5⟩ := hg
    refine ⟨⟨⟨⟨g1, g2⟩, ?_⟩, g4⟩, g5⟩
    refine ⟨g3, ?_⟩
    · exact hn
  split at hs
  · obtain ⟨n, h1, hs⟩ := bind_ok hs
    obtain ⟨t, h2, hs⟩ := bind_ok hs
    obtain ⟨_, _, hs⟩ := bind_ok hs
    cases hs
    have hn := f_num_in h1
    have ht := f_txt_in h2
    refine upd_good h fun r _ hg => ?_
    simp [goodR] at hg ⊢
    obtain ⟨⟨⟨⟨g1, g2⟩, g3⟩, g4⟩, g5⟩ := hg
    refine ⟨⟨⟨⟨g1, g2⟩, g3⟩, ?_⟩, g5⟩
    refine ⟨g4, ?_⟩
    · unfold goodO
      rw [hn]
      simp [ByteArray.size]
      exact ht
  split at hs
  · obtain ⟨n, h1, hs⟩ := bind_ok hs
    obtain ⟨_, _, hs⟩ := bind_ok hs
    cases hs
    have hn := f_num_in h1
    refine upd_good h fun r _ hg => ?_
    simp [goodR] at hg ⊢
    obtain ⟨⟨⟨⟨g1, g2⟩, g3⟩, g4⟩, g5⟩ := hg
    refine ⟨⟨⟨⟨g1, g2⟩, g3⟩, g4⟩, ?_⟩
    refine ⟨g5, ?_⟩
    · unfold goodP
      rw [hn]
      rfl
  split at hs
  · obtain ⟨n, h1, hs⟩ := bind_ok hs
    obtain ⟨m, h2, hs⟩ := bind_ok hs
    obtain ⟨_, _, hs⟩ := bind_ok hs
    cases hs
    have hn := f_num_in h1
    have hm := f_num_in h2
    refine upd_good h fun r _ hg => ?_
    simp [goodR] at hg ⊢
    obtain ⟨⟨⟨⟨g1, g2⟩, g3⟩, g4⟩, g5⟩ := hg
    refine ⟨⟨⟨⟨g1, g2⟩, g3⟩, g4⟩, ?_⟩
    refine ⟨g5, ?_⟩
    · unfold goodP
      rw [hn, hm]
      simp
  split at hs
  · obtain ⟨n, h1, hs⟩ := bind_ok hs
    obtain ⟨_, _, hs⟩ := bind_ok hs
    cases hs
    have hn := f_num_in h1
    refine upd_good h fun r _ hg => ?_
    simp [goodR, inT] at hg hn ⊢
    obtain ⟨⟨⟨⟨g1, g2⟩, g3⟩, g4⟩, g5⟩ := hg
    exact ⟨⟨⟨⟨g1, by omega⟩, g3⟩, g4⟩, g5⟩
  · obtain ⟨_, _, hs⟩ := bind_ok hs
    cases hs
    exact upd_good h fun r _ hg => hg
theorem readF_good : ∀ (L : List (List UInt8)) (k : Nat) (rs rs' : List Rd), (∀ r ∈ rs, goodR r = true) → readF k rs L = .ok rs' → ∀ r ∈ rs', goodR r = true
  | [], k, rs, rs', h, e => by cases e; exact h
  | s :: L, k, rs, rs', h, e => by
    unfold readF at e
    split at e
    · exact readF_good L (k + 1) rs rs' h e
    · cases hl : lineR rs s with
      | error p =>
        rw [hl] at e
        cases e
      | ok r1 =>
        rw [hl] at e
        refine readF_good L (k + 1) r1 rs' ?_ e
        unfold lineR at hl
        split at hl
        · exact say_good h hl
        · cases hl
theorem read_good {t : List UInt8} {rs : List Rd} (h : readW t = .ok rs) : ∀ r ∈ rs, goodR r = true := by
  unfold readW at h
  split at h
  · cases h
  · exact readF_good _ 0 [] rs (fun r hr => by cases hr) h
end Go.Proofs.YtmnkekepccdlcaaGreatDoor
