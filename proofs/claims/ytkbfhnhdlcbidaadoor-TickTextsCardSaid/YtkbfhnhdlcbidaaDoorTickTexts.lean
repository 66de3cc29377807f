/-
  What the statement TickTexts computes: it returns true; it makes new memory alone.
  Conditions: the number is a number of its Go kind; strconv's error and its table are laid.
-/
import Derived.Test.YtkbfhnhdlcbidaaDoorTickLaws
namespace Go.Proofs.YtkbfhnhdlcbidaaDoor
open Go.RowKit Go.Sort

theorem text_le (t : Int) (ht : i64 t) : (textT t).length ≤ 100 := by
  unfold textT
  split
  · decide
  · have h := ownT_le ht
    have h1 := Lib.itoa_length_le (ownT t) (by omega) h.2
    have h2 := Lib.itoa_nonneg (ownT t).toNat
    rw [Int.toNat_of_nonneg h.1] at h2
    rw [← h2]; omega
set_option maxHeartbeats 4000000 in
theorem tickTexts (t : Int) (s0 : ByteArray) (w : World) (ht : i64 t) (hr : RangeV w) (hp : Pow w) :
    Calls Tryd.prog 8 #[.int .i64 t, .string s0] w fun e w' => e = .returned (.bool true) ∧ Below w.heap.size w w' := by
  have F1 := Lib.hid (fun w hp => tText t w ht hp)
  have f2 := fun w hr => tParse (bt (textT t)) (by have := text_le t ht; show (textT t).length ≤ _; omega) w hr
  rw [show (bt (textT t)).data.toList = textT t from rfl, parse_text t ht] at f2
  have F2 := Lib.hid f2
  have F3 := Lib.hid (fun w => rText t w ht)
  have HR := Lib.hid hr
  have HP := Lib.hid hp
  clear ht hr hp f2
  have main : ∀ s : ByteArray, s.size ≤ 40 → ∃ m er, (∀ w, RangeV w → Calls Tryd.prog 30 #[.string s] w fun e w' => e = .returned (.tuple #[.int .i64 m, .int .i64 er]) ∧ Below w.heap.size w w') ∧
      (∀ w, Calls Tryd.prog 32 #[.string s] w fun e w' => e = .returned (.tuple #[.int .i64 m, .int .i64 er]) ∧ w = w') ∧ (er = 0 → ∀ w, Pow w → Calls Tryd.prog 31 #[.int .i64 m] w fun e w' => e = .returned (.string s) ∧ Below w.heap.size w w') := by
    intro s hs
    refine ⟨_, _, fun w hr => tParse s (by omega) w hr, fun w => rParse s (by omega) w, fun h w hp => ?_⟩
    have := tText _ w (parse_i64 s.data.toList) hp
    rwa [text_parse h] at this
  by_cases h40 : 40 < s0.size
  · obtain ⟨m, er, g1, g2, g3⟩ := main (s0.extract 0 40) (by simp; omega)
    have e1 : (40 : Int) < (s0.size : Int) := by omega
    have e2 : (40 : Int) ≤ (s0.size : Int) := by omega
    have G1 := Lib.hid g1
    have G2 := Lib.hid g2
    have G3 := Lib.hid g3
    clear main g1 g2 g3
    go_enter Tryd.func8, Tryd.ntmps8
    go_wp2_with fail
    refine (F1.out _ HP.out).mono ?_; rintro e w1 ⟨rfl, hb1⟩
    have HR1 := Lib.hid (range_later HR.out hb1)
    have HP1 := Lib.hid (pow_later HP.out hb1)
    go_wp2_with fail
    refine (F2.out _ HR1.out).mono ?_; rintro e w2 ⟨rfl, hb2'⟩
    have HR2 := Lib.hid (range_later HR1.out hb2')
    have HP2 := Lib.hid (pow_later HP1.out hb2')
    have hb2 := hb1.up hb2'
    clear hb1 hb2' HR1 HP1
    go_wp2_with fail
    refine (G1.out _ HR2.out).mono ?_; rintro e w3 ⟨rfl, hb3'⟩
    have HR3 := Lib.hid (range_later HR2.out hb3')
    have HP3 := Lib.hid (pow_later HP2.out hb3')
    have hb3 := hb2.up hb3'
    clear hb2 hb3' HR2 HP2
    go_wp2_with fail
    refine (G2.out _).mono ?_; rintro e w4 ⟨rfl, rfl⟩
    go_wp2_with fail
    refine (F1.out _ HP3.out).mono ?_; rintro e w5 ⟨rfl, hb5'⟩
    have HR5 := Lib.hid (range_later HR3.out hb5')
    have HP5 := Lib.hid (pow_later HP3.out hb5')
    have hb5 := hb3.up hb5'
    clear hb3 hb5' HR3 HP3
    go_wp2_with fail
    refine (F3.out _).mono ?_; rintro e w6 ⟨rfl, rfl⟩
    go_wp2_with fail
    refine (rOwn _ _).mono ?_; rintro e w6 ⟨rfl, rfl⟩
    by_cases he : er = 0
    · subst he
      go_wp2_with fail
      refine (G3.out trivial _ HP5.out).mono ?_; rintro e w6 ⟨rfl, hb6'⟩
      have HR6 := Lib.hid (range_later HR5.out hb6')
      have hb6 := hb5.up hb6'
      clear hb5 hb6' HR5 HP5
      go_wp2_with fail
      refine (aLives _ HR6.out).mono ?_; rintro e w7 ⟨rfl, hb7'⟩
      have hb7 := hb6.up hb7'
      go_wp2_with fail
      go_ret
      exact ⟨rfl, hb7⟩
    · go_wp2_with fail
      refine (aLives _ HR5.out).mono ?_; rintro e w7 ⟨rfl, hb7'⟩
      have hb7 := hb5.up hb7'
      go_wp2_with fail
      go_ret
      exact ⟨rfl, hb7⟩
  · obtain ⟨m, er, g1, g2, g3⟩ := main s0 (by omega)
    have e1 : ¬ (40 : Int) < (s0.size : Int) := by omega
    have G1 := Lib.hid g1
    have G2 := Lib.hid g2
    have G3 := Lib.hid g3
    clear main g1 g2 g3
    go_enter Tryd.func8, Tryd.ntmps8
    go_wp2_with fail
    refine (F1.out _ HP.out).mono ?_; rintro e w1 ⟨rfl, hb1⟩
    have HR1 := Lib.hid (range_later HR.out hb1)
    have HP1 := Lib.hid (pow_later HP.out hb1)
    go_wp2_with fail
    refine (F2.out _ HR1.out).mono ?_; rintro e w2 ⟨rfl, hb2'⟩
    have HR2 := Lib.hid (range_later HR1.out hb2')
    have HP2 := Lib.hid (pow_later HP1.out hb2')
    have hb2 := hb1.up hb2'
    clear hb1 hb2' HR1 HP1
    go_wp2_with fail
    refine (G1.out _ HR2.out).mono ?_; rintro e w3 ⟨rfl, hb3'⟩
    have HR3 := Lib.hid (range_later HR2.out hb3')
    have HP3 := Lib.hid (pow_later HP2.out hb3')
    have hb3 := hb2.up hb3'
    clear hb2 hb3' HR2 HP2
    go_wp2_with fail
    refine (G2.out _).mono ?_; rintro e w4 ⟨rfl, rfl⟩
    go_wp2_with fail
    refine (F1.out _ HP3.out).mono ?_; rintro e w5 ⟨rfl, hb5'⟩
    have HR5 := Lib.hid (range_later HR3.out hb5')
    have HP5 := Lib.hid (pow_later HP3.out hb5')
    have hb5 := hb3.up hb5'
    clear hb3 hb5' HR3 HP3
    go_wp2_with fail
    refine (F3.out _).mono ?_; rintro e w6 ⟨rfl, rfl⟩
    go_wp2_with fail
    refine (rOwn _ _).mono ?_; rintro e w6 ⟨rfl, rfl⟩
    by_cases he : er = 0
    · subst he
      go_wp2_with fail
      refine (G3.out trivial _ HP5.out).mono ?_; rintro e w6 ⟨rfl, hb6'⟩
      have HR6 := Lib.hid (range_later HR5.out hb6')
      have hb6 := hb5.up hb6'
      clear hb5 hb6' HR5 HP5
      go_wp2_with fail
      refine (aLives _ HR6.out).mono ?_; rintro e w7 ⟨rfl, hb7'⟩
      have hb7 := hb6.up hb7'
      go_wp2_with fail
      go_ret
      exact ⟨rfl, hb7⟩
    · go_wp2_with fail
      refine (aLives _ HR5.out).mono ?_; rintro e w7 ⟨rfl, hb7'⟩
      have hb7 := hb5.up hb7'
      go_wp2_with fail
      go_ret
      exact ⟨rfl, hb7⟩
end Go.Proofs.YtkbfhnhdlcbidaaDoor
