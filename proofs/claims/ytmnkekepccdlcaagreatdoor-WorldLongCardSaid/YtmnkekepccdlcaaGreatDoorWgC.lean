/-
  Contracts of the reference of package quote: sign by sign.
  Conditions: a text of at most 100000 bytes.
-/
import Derived.Test.YtmnkekepccdlcaaGreatDoorQuote2
namespace Go.Proofs.YtmnkekepccdlcaaGreatDoor
set_option linter.unusedVariables false
set_option linter.unusedSimpArgs false
open Go.RowKit

theorem digits_two (a b : Nat) (ha : a < 16) (hb : b < 16) : (⟨#[92, 120]⟩ : ByteArray) ++ digits16.extract a (a + 1) ++ digits16.extract b (b + 1) = ⟨#[92, 120, hexD a, hexD b]⟩ := by
  have : ∀ a b : Fin 16, ((⟨#[92, 120]⟩ : ByteArray) ++ digits16.extract a.val (a.val + 1) ++ digits16.extract b.val (b.val + 1)).data.toList = [92, 120, hexD a.val, hexD b.val] := by decide +kernel
  apply ByteArray.ext
  apply Array.toList_inj.1
  exact this ⟨a, ha⟩ ⟨b, hb⟩

set_option maxHeartbeats 1000000 in
theorem rSignX (n : Int) (hb : 0 ≤ n ∧ n ≤ 255) (h : n < 32 ∨ 126 < n) (h1 : ¬ n = 10) (h2 : ¬ n = 13) (h3 : ¬ n = 9) (x y : UInt8) (hx : x = hexD (n / 16).toNat) (hy : y = hexD (n % 16).toNat) (w : World) :
    Calls Tryz.prog 71 #[.int .u8 n] w fun e w' => e = .returned (.string ⟨#[92, 120, x, y]⟩) ∧ Below w.heap.size w w' := by
  have d1 := ne_b h1
  have d2 := ne_b h2
  have d3 := ne_b h3
  have d4 : (n == 34) = false := ne_b (by omega)
  have d5 : (n == 92) = false := ne_b (by omega)
  have h' : n < 32 ∨ ¬ n < 32 ∧ ¬ n < 127 := by omega
  clear h
  go_enter Tryz.func71, Tryz.ntmps71
  rcases h' with h | ⟨h, h'⟩
  all_goals (
    go_wp2_with fail
    go_quiet (fail)
    go_wp2_with fail
    go_ret
    refine ⟨?_, below_drewN (Below.refl _ _) _⟩
    rw [hx, hy, show (n / 16 + 1).toNat = (n / 16).toNat + 1 by omega, show (n % 16 + 1).toNat = (n % 16).toNat + 1 by omega]
    exact congrArg (fun t => Ending.returned (.string t)) (digits_two _ _ (by omega) (by omega)))
theorem rSign1 (c : UInt8) (n : Int) (hn : Hid (n = (c.toNat : Int))) (h : 32 ≤ n ∧ n < 127) (h1 : ¬ n = 34) (h2 : ¬ n = 92) (w : World) :
    Calls Tryz.prog 71 #[.int .u8 n] w fun e w' => e = .returned (.string ⟨#[c]⟩) ∧ Below w.heap.size w w' := by
  have d1 := ne_b h1
  have d2 := ne_b h2
  have d3 : (n == 10) = false := ne_b (by omega)
  have d4 : (n == 13) = false := ne_b (by omega)
  have d5 : (n == 9) = false := ne_b (by omega)
  have hcv : (convert 64 9 (.slice (some ⟨w.heap.size, 0, none⟩) 1 1)).run Tryz.prog (w.alloc (.cells #[.int .u8 n] 5)) = .ok (.string ⟨#[c]⟩) (w.alloc (.cells #[.int .u8 n] 5)) :=
    run_convert_bytes_back (P := Tryz.prog) (w.alloc (.cells #[.int .u8 n] 5)) 64 9 5 ⟨w.heap.size, 0, none⟩ 1 [c] Tryz.underlying64 Tryz.underlying5 Tryz.underlying9 (fun j hj => by
      obtain rfl : j = 0 := by simpa using hj
      rw [Addr.add_lit, Nat.zero_add, cell_new1, hn.out]
      rfl)
  go_enter Tryz.func71, Tryz.ntmps71
  go_wp2_with fail
  go_ret
  exact ⟨rfl, (Below.refl _ _).alloc (Nat.le_refl _) _⟩
theorem rSignS (n : Int) (t : ByteArray) (h : n = 34 ∧ t = ⟨#[92, 34]⟩ ∨ n = 92 ∧ t = ⟨#[92, 92]⟩ ∨ n = 10 ∧ t = ⟨#[92, 110]⟩ ∨ n = 13 ∧ t = ⟨#[92, 114]⟩ ∨ n = 9 ∧ t = ⟨#[92, 116]⟩) (w : World) :
    Calls Tryz.prog 71 #[.int .u8 n] w fun e w' => e = .returned (.string t) ∧ Below w.heap.size w w' := by
  go_enter Tryz.func71, Tryz.ntmps71
  rcases h with ⟨rfl, rfl⟩ | ⟨rfl, rfl⟩ | ⟨rfl, rfl⟩ | ⟨rfl, rfl⟩ | ⟨rfl, rfl⟩
  all_goals (
    go_wp2_with fail
    go_ret
    exact ⟨rfl, Below.refl _ _⟩)

theorem rSign (c : UInt8) (w : World) : Calls Tryz.prog 71 #[bval c] w fun e w' => e = .returned (.string ⟨(sgn c).toArray⟩) ∧ Below w.heap.size w w' := by
  have hc := u8_lt c
  unfold sgn
  by_cases h1 : c = 34 ∨ c = 92
  · rw [if_pos h1]
    rcases h1 with rfl | rfl
    · exact rSignS 34 _ (.inl ⟨rfl, rfl⟩) w
    · exact rSignS 92 _ (.inr (.inl ⟨rfl, rfl⟩)) w
  · rw [if_neg h1]
    have d1 : ¬ (c.toNat : Int) = 34 := fun e => h1 (.inl (u8_eq e))
    have d2 : ¬ (c.toNat : Int) = 92 := fun e => h1 (.inr (u8_eq e))
    by_cases h2 : c = 10
    · subst h2; exact rSignS 10 _ (.inr (.inr (.inl ⟨rfl, rfl⟩))) w
    · rw [if_neg h2]
      by_cases h3 : c = 13
      · subst h3; exact rSignS 13 _ (.inr (.inr (.inr (.inl ⟨rfl, rfl⟩)))) w
      · rw [if_neg h3]
        by_cases h4 : c = 9
        · subst h4; exact rSignS 9 _ (.inr (.inr (.inr (.inr ⟨rfl, rfl⟩)))) w
        · rw [if_neg h4]
          by_cases h5 : c < 32 ∨ 126 < c
          · rw [if_pos h5]
            have h6 : (c.toNat : Int) < 32 ∨ 126 < (c.toNat : Int) := by
              rcases h5 with h5 | h5
              · left; have := UInt8.lt_iff_toNat_lt.1 h5; simp at this; omega
              · right; have := UInt8.lt_iff_toNat_lt.1 h5; simp at this; omega
            exact rSignX _ hc h6 (fun e => h2 (u8_eq e)) (fun e => h3 (u8_eq e)) (fun e => h4 (u8_eq e)) _ _ (by congr 1) (by congr 1) w
          · rw [if_neg h5]
            have h6 : ¬ (c.toNat : Int) < 32 := fun hh => h5 (.inl (UInt8.lt_iff_toNat_lt.2 (by simp; omega)))
            have h7 : ¬ 126 < (c.toNat : Int) := fun hh => h5 (.inr (UInt8.lt_iff_toNat_lt.2 (by simp; omega)))
            exact rSign1 c _ (Lib.hid rfl) ⟨by omega, by omega⟩ d1 d2 w

set_option maxHeartbeats 1000000 in
theorem rQuote (s : ByteArray) (w : World) (hs : s.size ≤ 100000) : Calls Tryz.prog 43 #[.string s] w fun e w' => e = .returned (.string ⟨(quoteT s.data.toList).toArray⟩) ∧ Below w.heap.size w w' := by
  go_enter Tryz.func43, Tryz.ntmps43
  go_wp2_with fail
  go_loopw [3, 4] (fun ov iv wr => ∃ (k : Nat) (o : ByteArray), iv = .int .i64 k ∧ ov = .string o ∧ k ≤ s.size ∧ Hid (o = ⟨(34 :: (s.data.toList.take k).flatMap sgn).toArray⟩) ∧ o.size ≤ 4 * k + 1 ∧ Below w.heap.size w wr) (fun _ iv _ => s.size - (intOf iv).toNat)
  case atStart => exact ⟨0, _, rfl, rfl, Nat.zero_le _, Lib.hid rfl, by decide, Below.refl _ _⟩
  case round =>
    obtain ⟨k, o, rfl, rfl, hk, hO, hos, hb⟩ := hrel
    have e0 : (0 : Int) ≤ (k : Int) := by omega
    by_cases hlt : k < s.size
    · have e1 : (k : Int) < (s.size : Int) := by omega
      have hsn := flat_snoc s k hlt
      have hrs := fun w => rSign s[k] w
      have hl : (sgn s[k]).length ≤ 4 := by unfold sgn; repeat' split
                                            all_goals simp
      generalize sgn s[k] = g at *
      have hgs : (⟨g.toArray⟩ : ByteArray).size = g.length := rfl
      have hog : o ++ ⟨g.toArray⟩ = ⟨(34 :: (s.data.toList.take (k + 1)).flatMap sgn).toArray⟩ := by
        rw [hsn, hO.out]
        apply ByteArray.ext
        simp
      have hosz : (o ++ ⟨g.toArray⟩).size = o.size + g.length := ByteArray.size_append
      generalize (⟨g.toArray⟩ : ByteArray) = t at *
      have hz : ¬ 9223372036854775807 < o.size + t.size := by omega
      have HR := Lib.hid hrs
      have HG := Lib.hid hog
      have HZ := Lib.hid hosz
      clear hsn hrs hog hosz hO
      go_wp2_with fail
      refine (HR.out _).mono ?_; rintro e w1 ⟨rfl, hb1⟩
      have hb2 := hb.up hb1
      clear hb hb1
      go_wp2_with fail
      go_roundw
      case rel => exact ⟨k + 1, _, by go_num, rfl, by omega, HG, by have := HZ.out; omega, hb2⟩
      case measure => simp [intOf]; omega
    · obtain rfl : k = s.size := by omega
      have e1 : ¬ (s.size : Int) < (s.size : Int) := by omega
      have hfin : o ++ ⟨#[34]⟩ = ⟨(quoteT s.data.toList).toArray⟩ := by
        have hT : s.data.toList.take s.size = s.data.toList := List.take_length
        rw [hO.out, hT]
        apply ByteArray.ext
        simp [quoteT]
      have HF := Lib.hid hfin
      have hz : ¬ 9223372036854775807 < o.size + (⟨#[34]⟩ : ByteArray).size := by show ¬ _ < o.size + 1; omega
      clear hfin hO
      go_wp2_with fail
      go_ret
      exact ⟨by rw [← HF.out]; rfl, hb⟩

theorem hexD_hv {c : UInt8} {x : Nat} (h : hv c = some x) : hexD x = c := by
  have hc := c.toNat_lt
  unfold hv at h
  split at h
  · rename_i h1
    have h2 := UInt8.le_iff_toNat_le.1 h1.1
    have h3 := UInt8.le_iff_toNat_le.1 h1.2
    simp at h2 h3 h
    unfold hexD
    rw [if_pos (by omega), show 48 + x = c.toNat by omega, UInt8.ofNat_toNat]
  · split at h
    · rename_i h0 h1
      have h2 := UInt8.le_iff_toNat_le.1 h1.1
      have h3 := UInt8.le_iff_toNat_le.1 h1.2
      simp at h2 h3 h
      unfold hexD
      rw [if_neg (by omega), show 87 + x = c.toNat by omega, UInt8.ofNat_toNat]
    · cases h
/-- What a digit counts, below 0 if it is none. -/
def valI (c : UInt8) : Int := match hv c with | some x => (x : Int) | none => -1
theorem valI_some {c : UInt8} {x : Nat} (h : hv c = some x) : valI c = x := by unfold valI; rw [h]
theorem valI_none {c : UInt8} (h : hv c = none) : valI c = -1 := by unfold valI; rw [h]

set_option maxHeartbeats 1000000 in
theorem rValue (c : UInt8) (w : World) : Calls Tryz.prog 167 #[bval c] w fun e w' => e = .returned (.int .i64 (valI c)) ∧ w = w' := by
  go_enter Tryz.func167, Tryz.ntmps167
  go_wp2_with fail
  go_loopw [3] (fun iv wr => ∃ k : Nat, iv = .int .i64 k ∧ k ≤ 16 ∧ Hid (∀ j, j < k → hexD j ≠ c) ∧ w = wr) (fun iv _ => 16 - (intOf iv).toNat)
  case atStart => exact ⟨0, rfl, Nat.zero_le _, Lib.hid (fun j h => absurd h (by omega)), rfl⟩
  case round =>
    obtain ⟨k, rfl, hk, hH, rfl⟩ := hrel
    by_cases hlt : k < 16
    · have e1 : (k : Int) < 16 := by omega
      have e2 : (0 : Int) ≤ (k : Int) := by omega
      have hdig := digits_at k hlt
      go_wp2_with fail
      · rename_i h
        have h1 : hexD k = c := u8_eq (by simpa using h)
        go_ret
        exact ⟨ret_int (valI_some (by rw [← h1]; exact hv_hexD k hlt)).symm, rfl⟩
      · rename_i h
        have h1 : hexD k ≠ c := by
          intro e
          have h2 := beq_eq_false_iff_ne.1 h
          exact h2 (by rw [← e])
        go_roundw
        case rel => exact ⟨k + 1, by go_num, by omega, Lib.hid (fun j hj => by
          by_cases e : j = k
          · subst e; exact h1
          · exact hH.out j (by omega)), trivial⟩
        case measure => simp [intOf]; omega
    · obtain rfl : k = 16 := by omega
      have e1 : ¬ ((16 : Nat) : Int) < 16 := by omega
      go_wp2_with fail
      go_ret
      refine ⟨ret_int (valI_none ?_).symm, rfl⟩
      cases hx : hv c with
      | none => rfl
      | some x => exact absurd (hexD_hv hx) (hH.out x (hv_lt hx))
end Go.Proofs.YtmnkekepccdlcaaGreatDoor

namespace Go.Proofs.YtmnkekepccdlcaaGreatDoor
set_option linter.unusedVariables false
set_option linter.unusedSimpArgs false
open Go.RowKit

theorem sgn_form (b : UInt8) : (∃ d, sgn b = [92, d]) ∨ (∃ c, c ≠ 92 ∧ sgn b = [c]) ∨ (∃ x y, sgn b = [92, 120, x, y]) := by
  unfold sgn
  by_cases h1 : b = 34 ∨ b = 92
  · rw [if_pos h1]; exact .inl ⟨_, rfl⟩
  · rw [if_neg h1]
    by_cases h2 : b = 10
    · rw [if_pos h2]; exact .inl ⟨_, rfl⟩
    · rw [if_neg h2]
      by_cases h3 : b = 13
      · rw [if_pos h3]; exact .inl ⟨_, rfl⟩
      · rw [if_neg h3]
        by_cases h4 : b = 9
        · rw [if_pos h4]; exact .inl ⟨_, rfl⟩
        · rw [if_neg h4]
          by_cases h5 : b < 32 ∨ 126 < b
          · rw [if_pos h5]; exact .inr (.inr ⟨_, _, rfl⟩)
          · rw [if_neg h5]; exact .inr (.inl ⟨_, fun e => h1 (.inr e), rfl⟩)
/-- A sign of two bytes is read back. -/
theorem sgn_two {b d : UInt8} (h : sgn b = [92, d]) (t : List UInt8) : oneL (92 :: d :: t) = (some b, 2) := by
  have := (one_sgn b t).1
  rw [h] at this
  exact this
/-- Where no sign of two bytes fits, the second byte is an x, or nothing goes on. -/
theorem no_two {d : UInt8} (h : ∀ b, sgn b ≠ [92, d]) : ¬ (d = 34 ∨ d = 92) ∧ ¬ d = 110 ∧ ¬ d = 114 ∧ ¬ d = 116 :=
  ⟨by rintro (rfl | rfl)
      · exact h 34 rfl
      · exact h 92 rfl, by rintro rfl; exact h 10 rfl, by rintro rfl; exact h 13 rfl, by rintro rfl; exact h 9 rfl⟩

theorem rOne0 (w : World) : Calls Tryz.prog 153 #[.string ⟨#[]⟩] w fun e w' => e = .returned (.tuple #[bval 0, .int .i64 0, .bool false]) ∧ Below w.heap.size w w' := by
  go_enter Tryz.func153, Tryz.ntmps153
  go_wp2_with fail
  go_ret3
  exact ⟨rfl, Below.refl _ _⟩
set_option maxHeartbeats 1000000 in
theorem rOneA (s : ByteArray) (h0 : 0 < s.size) (hne : s.toList.isEmpty = false) (n : Int) (hn : (s[0].toNat : Int) = n) (w : World) (v m : Int) (ok : Bool)
    (h : (n < 32 ∨ 32 ≤ n ∧ 126 < n ∨ n = 34) ∧ v = 0 ∧ m = 0 ∧ ok = false ∨ (32 ≤ n ∧ n ≤ 126 ∧ ¬ n = 34 ∧ ¬ n = 92) ∧ v = n ∧ m = 1 ∧ ok = true) :
    Calls Tryz.prog 153 #[.string s] w fun e w' => e = .returned (.tuple #[.int .u8 v, .int .i64 m, .bool ok]) ∧ Below w.heap.size w w' := by
  rcases h with ⟨h | ⟨h1, h2⟩ | h, rfl, rfl, rfl⟩ | ⟨⟨h1, h2, h3, h4⟩, rfl, rfl, rfl⟩
  · go_enter Tryz.func153, Tryz.ntmps153
    go_wp2_with fail
    go_ret3
    exact ⟨rfl, Below.refl _ _⟩
  · go_enter Tryz.func153, Tryz.ntmps153
    go_wp2_with fail
    go_ret3
    exact ⟨rfl, Below.refl _ _⟩
  · subst h
    go_enter Tryz.func153, Tryz.ntmps153
    go_wp2_with fail
    go_ret3
    exact ⟨rfl, Below.refl _ _⟩
  · have h3 := ne_b h3
    have h4 := ne_b h4
    have h5 : ¬ 126 < v := by omega
    have h6 : ¬ v < 32 := by omega
    go_enter Tryz.func153, Tryz.ntmps153
    go_wp2_with fail
    go_ret3
    exact ⟨rfl, Below.refl _ _⟩
set_option maxHeartbeats 1000000 in
theorem rOneB (s : ByteArray) (h0 : 0 < s.size) (hne : s.toList.isEmpty = false) (hn : (s[0].toNat : Int) = 92) (h1 : (s.size : Int) = 1) (w : World) :
    Calls Tryz.prog 153 #[.string s] w fun e w' => e = .returned (.tuple #[bval 0, .int .i64 1, .bool false]) ∧ Below w.heap.size w w' := by
  go_enter Tryz.func153, Tryz.ntmps153
  go_wp2_with fail
  go_ret3
  exact ⟨rfl, Below.refl _ _⟩

set_option maxHeartbeats 4000000 in
set_option maxRecDepth 100000 in
theorem rOneC (s : ByteArray) (hs : s.size ≤ 100000) (h0 : 1 < s.size) (hne : s.toList.isEmpty = false) (hn : (s[0].toNat : Int) = 92) (w : World) :
    Calls Tryz.prog 153 #[.string s] w fun e w' => e = .returned (oneV (oneL s.data.toList) 0) ∧ Below w.heap.size w w' := by
  have hd0 := drop_at s 0 (by omega)
  have hd1 := drop_at s 1 h0
  rw [List.drop_zero, hd1, show s[0] = 92 from u8_eq (c := s[0]) (d := 92) hn] at hd0
  obtain ⟨d, hd⟩ : ∃ d, s[1] = d := ⟨_, rfl⟩
  rw [hd] at hd0
  have hx2 : s.extract 0 2 = ⟨#[92, d]⟩ := by
    apply ByteArray.ext
    apply Array.toList_inj.1
    rw [ByteArray.data_extract, Array.toList_extract, List.extract_eq_take_drop, List.drop_zero, hd0]
    simp
  obtain ⟨x2, hx2e⟩ : ∃ x2, s.extract 0 2 = x2 := ⟨_, rfl⟩
  have HX2 := Lib.hid (hx2e.symm.trans hx2)
  generalize hT : oneL s.data.toList = T
  rw [hd0] at hT
  have HT := Lib.hid hT
  have HD := Lib.hid hd
  have hsz : ¬ (s.size : Int) = 1 := by omega
  have hszb := ne_b hsz
  have e2 : (2 : Int) ≤ (s.size : Int) := by omega
  clear hT hd hd0 hd1 hx2
  go_enter Tryz.func153, Tryz.ntmps153
  go_wp2_with fail
  go_loopw [5] (fun iv wr => ∃ k : Nat, iv = .int .i64 k ∧ k ≤ 256 ∧ Hid (∀ j, j < k → sgn (UInt8.ofNat j) ≠ [92, d]) ∧ Below w.heap.size w wr) (fun iv _ => 256 - (intOf iv).toNat)
  case atStart => exact ⟨0, rfl, Nat.zero_le _, Lib.hid (fun j h => absurd h (by omega)), Below.refl _ _⟩
  case round =>
    obtain ⟨k, rfl, hk, hH, hb⟩ := hrel
    by_cases hlt : k < 256
    · have e3 : (k : Int) < 256 := by omega
      have e4 : (0 : Int) ≤ (k : Int) := by omega
      have hkn : ((UInt8.ofNat k).toNat : Int) = (k : Int) := by
        have : (UInt8.ofNat k).toNat = k % 256 := by simp
        omega
      have hrs : ∀ w, Calls Tryz.prog 71 #[.int .u8 (k : Int)] w fun e w' => e = .returned (.string ⟨(sgn (UInt8.ofNat k)).toArray⟩) ∧ Below w.heap.size w w' := fun w => by
        have := rSign (UInt8.ofNat k) w
        unfold bval at this
        rwa [hkn] at this
      generalize hb0 : UInt8.ofNat k = b at *
      have HB0 := Lib.hid hb0
      have HKN := Lib.hid hkn
      clear hb0 hkn
      rcases sgn_form b with ⟨d', hf⟩ | ⟨c, hc, hf⟩ | ⟨x, y, hf⟩
      · rw [hf] at hrs
        by_cases hdd : d' = d
        · subst hdd
          have hV : T = (some b, 2) := by rw [← HT.out]; exact sgn_two hf _
          subst hV
          have hxx : (⟨[92, d'].toArray⟩ : ByteArray) = x2 := HX2.out.symm
          rw [hxx] at hrs
          have ht0 : 0 < x2.size := by rw [← hxx]; exact Nat.succ_pos 1
          have ht1 : (x2[0].toNat : Int) = 92 := by
            have : x2[0] = 92 := by subst hxx; rfl
            rw [this]; rfl
          have ht2 : (x2.size : Int) = 2 := by rw [← hxx]; rfl
          have HR := Lib.hid hrs
          clear hrs hxx hf
          go_wp2_with fail
          refine (HR.out _).mono ?_; rintro e w1 ⟨rfl, hb1⟩
          have hb2 := hb.up hb1
          clear hb hb1
          go_wp2_with fail
          go_ret3
          exact ⟨by rw [← HKN.out]; rfl, hb2⟩
        · obtain ⟨t, ht⟩ : ∃ t : ByteArray, t = ⟨[92, d'].toArray⟩ := ⟨_, rfl⟩
          rw [← ht] at hrs
          have ht0 : 0 < t.size := by rw [ht]; exact Nat.succ_pos 1
          have ht1 : (t[0].toNat : Int) = 92 := by
            have : t[0] = 92 := by subst ht; rfl
            rw [this]; rfl
          have ht2 : (t.size : Int) = 2 := by rw [ht]; rfl
          have ht3 : (t.toList == x2.toList) = false := by
            rw [beq_eq_false_iff_ne, HX2.out, ht, ByteArray.toList_eq, ByteArray.toList_eq]
            intro e
            simp at e
            exact hdd e
          have hno : sgn b ≠ [92, d] := by
            rw [hf]; intro e; simp at e; exact hdd e
          have HR := Lib.hid hrs
          have HNO := Lib.hid hno
          clear hrs ht hf hno
          go_wp2_with fail
          refine (HR.out _).mono ?_; rintro e w1 ⟨rfl, hb1⟩
          have hb2 := hb.up hb1
          clear hb hb1
          go_wp2_with fail
          go_roundw
          case rel => exact ⟨k + 1, by go_num, by omega, Lib.hid (fun j hj => by
            by_cases e : j = k
            · subst e; rw [HB0.out]; exact HNO.out
            · exact hH.out j (by omega)), hb2⟩
          case measure => simp [intOf]; omega
      · rw [hf] at hrs
        obtain ⟨t, ht⟩ : ∃ t : ByteArray, t = ⟨[c].toArray⟩ := ⟨_, rfl⟩
        rw [← ht] at hrs
        have ht0 : 0 < t.size := by rw [ht]; exact Nat.succ_pos 0
        obtain ⟨m, hm⟩ : ∃ m : Int, (t[0].toNat : Int) = m := ⟨_, rfl⟩
        have hm2 : (m == 92) = false := by
          rw [beq_eq_false_iff_ne, ← hm]
          intro e
          have h1 : t[0] = c := by subst ht; rfl
          rw [h1] at e
          exact hc (u8_eq (d := 92) e)
        have hno : sgn b ≠ [92, d] := by
          rw [hf]; intro e; simp at e
        have HR := Lib.hid hrs
        have HNO := Lib.hid hno
        clear hrs ht hf hno
        go_wp2_with fail
        refine (HR.out _).mono ?_; rintro e w1 ⟨rfl, hb1⟩
        have hb2 := hb.up hb1
        clear hb hb1
        go_wp2_with fail
        go_roundw
        case rel => exact ⟨k + 1, by go_num, by omega, Lib.hid (fun j hj => by
          by_cases e : j = k
          · subst e; rw [HB0.out]; exact HNO.out
          · exact hH.out j (by omega)), hb2⟩
        case measure => simp [intOf]; omega
      · rw [hf] at hrs
        obtain ⟨t, ht⟩ : ∃ t : ByteArray, t = ⟨[92, 120, x, y].toArray⟩ := ⟨_, rfl⟩
        rw [← ht] at hrs
        have ht0 : 0 < t.size := by rw [ht]; exact Nat.succ_pos 3
        have ht1 : (t[0].toNat : Int) = 92 := by
          have : t[0] = 92 := by subst ht; rfl
          rw [this]; rfl
        have ht2 : (t.size : Int) = 4 := by rw [ht]; rfl
        have hno : sgn b ≠ [92, d] := by
          rw [hf]; intro e; simp at e
        have HR := Lib.hid hrs
        have HNO := Lib.hid hno
        clear hrs ht hf hno
        go_wp2_with fail
        refine (HR.out _).mono ?_; rintro e w1 ⟨rfl, hb1⟩
        have hb2 := hb.up hb1
        clear hb hb1
        go_wp2_with fail
        go_roundw
        case rel => exact ⟨k + 1, by go_num, by omega, Lib.hid (fun j hj => by
          by_cases e : j = k
          · subst e; rw [HB0.out]; exact HNO.out
          · exact hH.out j (by omega)), hb2⟩
        case measure => simp [intOf]; omega
    · obtain rfl : k = 256 := by omega
      have e3 : ¬ ((256 : Nat) : Int) < 256 := by omega
      have hno : ∀ b, sgn b ≠ [92, d] := fun b => by
        have := hH.out b.toNat b.toNat_lt
        rwa [UInt8.ofNat_toNat] at this
      obtain ⟨g1, g2, g3, g4⟩ := no_two hno
      clear hno hH
      obtain ⟨m, hm⟩ : ∃ m : Int, (s[1].toNat : Int) = m := ⟨_, rfl⟩
      have hmd : m = (d.toNat : Int) := by rw [← hm, HD.out]
      by_cases g5 : d = 120
      · have hTx : T = ((hexL (s.data.toList.drop 2)).1, 1 + (1 + (hexL (s.data.toList.drop 2)).2)) := by
          rw [← HT.out]
          simp only [oneL, if_true, escL, if_neg g1, if_neg g2, if_neg g3, if_neg g4, if_pos g5]
        have hm2 : (m == 120) = true := by rw [beq_iff_eq, hmd, g5]; rfl
        have e5 : (1 : Int) < (s.size : Int) := by omega
        clear hmd
        by_cases z2 : s.size = 2
        · have hV : T = (none, 2) := by
            rw [hTx, drop_end s 2 (by omega)]; rfl
          subst hV
          have z2' : (s.size : Int) = 2 := by omega
          clear hTx z2
          go_wp2_with fail
          refine wp_loop_rounds 3 ?_
          rw [rounds_succ]
          go_wp2_with fail
          go_ret3
          exact ⟨rfl, hb⟩
        · have z2' : (2 : Nat) < s.size := by omega
          have z2b := ne_b (show ¬ (2 : Int) = (s.size : Int) by omega)
          have z2i : (2 : Int) < (s.size : Int) := by omega
          rw [drop_at s 2 z2'] at hTx
          have f1 := fun w => rValue s[2] w
          cases hx : hv s[2] with
          | none =>
            have hV : T = (none, 2) := by
              rw [hTx]; simp only [hexL, hx]
            subst hV
            rw [valI_none hx] at f1
            have F1 := Lib.hid f1
            clear f1 hTx z2 hx
            go_wp2_with fail
            refine wp_loop_rounds 3 ?_
            rw [rounds_succ]
            go_wp2_with fail
            refine (F1.out _).mono ?_; rintro e w1 ⟨rfl, rfl⟩
            go_wp2_with fail
            go_ret3
            exact ⟨rfl, hb⟩
          | some x =>
            have lx := hv_lt hx
            rw [valI_some hx] at f1
            have F1 := Lib.hid f1
            by_cases z3 : s.size = 3
            · have hV : T = (none, 3) := by
                rw [hTx, drop_end s 3 (by omega)]; simp only [hexL, hx]
              subst hV
              have z3' : (s.size : Int) = 3 := by omega
              clear f1 hTx z2 hx z3
              go_wp2_with fail
              refine wp_loop_rounds 3 ?_
              rw [rounds_succ]
              go_wp2_with fail
              refine (F1.out _).mono ?_; rintro e w1 ⟨rfl, rfl⟩
              go_wp2_with fail
              refine (F1.out _).mono ?_; rintro e w1 ⟨rfl, rfl⟩
              go_wp2_with fail
              rw [rounds_succ]
              go_wp2_with fail
              go_ret3
              exact ⟨rfl, hb⟩
            · have z3' : (3 : Nat) < s.size := by omega
              have z3b := ne_b (show ¬ (3 : Int) = (s.size : Int) by omega)
              have z3i : (3 : Int) < (s.size : Int) := by omega
              rw [drop_at s 3 z3'] at hTx
              have f2 := fun w => rValue s[3] w
              cases hy : hv s[3] with
              | none =>
                have hV : T = (none, 3) := by
                  rw [hTx]; simp only [hexL, hx, hy]
                subst hV
                rw [valI_none hy] at f2
                have F2 := Lib.hid f2
                clear f1 f2 hTx z2 hx z3 hy
                go_wp2_with fail
                refine wp_loop_rounds 3 ?_
                rw [rounds_succ]
                go_wp2_with fail
                refine (F1.out _).mono ?_; rintro e w1 ⟨rfl, rfl⟩
                go_wp2_with fail
                refine (F1.out _).mono ?_; rintro e w1 ⟨rfl, rfl⟩
                go_wp2_with fail
                rw [rounds_succ]
                go_wp2_with fail
                refine (F2.out _).mono ?_; rintro e w1 ⟨rfl, rfl⟩
                go_wp2_with fail
                go_ret3
                exact ⟨rfl, hb⟩
              | some y =>
                have ly := hv_lt hy
                have hV : T = (some (UInt8.ofNat (16 * x + y)), 4) := by
                  rw [hTx]; simp only [hexL, hx, hy]
                subst hV
                rw [valI_some hy] at f2
                have F2 := Lib.hid f2
                have hu : ((UInt8.ofNat (16 * x + y)).toNat : Int) = 16 * (x : Int) + (y : Int) := by
                  have : (UInt8.ofNat (16 * x + y)).toNat = (16 * x + y) % 256 := by simp
                  omega
                have HU := Lib.hid hu
                clear f1 f2 hTx z2 hx z3 hy hu
                go_wp2_with fail
                refine wp_loop_rounds 3 ?_
                rw [rounds_succ]
                go_wp2_with fail
                refine (F1.out _).mono ?_; rintro e w1 ⟨rfl, rfl⟩
                go_wp2_with fail
                refine (F1.out _).mono ?_; rintro e w1 ⟨rfl, rfl⟩
                go_wp2_with fail
                rw [rounds_succ]
                go_wp2_with fail
                refine (F2.out _).mono ?_; rintro e w1 ⟨rfl, rfl⟩
                go_wp2_with fail
                refine (F2.out _).mono ?_; rintro e w1 ⟨rfl, rfl⟩
                go_wp2_with fail
                rw [rounds_succ]
                go_wp2_with fail
                go_ret3
                exact ⟨by show _ = Ending.returned (.tuple #[.int .u8 ((UInt8.ofNat (16 * x + y)).toNat : Int), .int .i64 4, .bool true]); rw [HU.out]; rfl, hb⟩
      · have hV : T = (none, 1) := by
          rw [← HT.out]
          simp only [oneL, if_true, escL, if_neg g1, if_neg g2, if_neg g3, if_neg g4, if_neg g5]
        subst hV
        have hm2 : (m == 120) = false := ne_b (by rw [hmd]; exact fun e => g5 (u8_eq (d := 120) e))
        have e5 : (1 : Int) < (s.size : Int) := by omega
        clear hmd
        go_wp2_with fail
        go_ret3
        exact ⟨rfl, hb⟩

theorem rOne (s : ByteArray) (hs : s.size ≤ 100000) (w : World) : Calls Tryz.prog 153 #[.string s] w fun e w' => e = .returned (oneV (oneL s.data.toList) 0) ∧ Below w.heap.size w w' := by
  rcases Nat.eq_zero_or_pos s.size with h0 | h0
  · obtain rfl : s = ⟨#[]⟩ := by
      apply ByteArray.ext
      exact Array.eq_empty_of_size_eq_zero h0
    exact rOne0 w
  · have hne : s.toList.isEmpty = false := by
      rw [ByteArray.toList_eq]
      cases hl : s.data.toList with
      | nil => have : s.data.toList.length = s.size := rfl
               rw [hl] at this; simp at this; omega
      | cons _ _ => rfl
    have hc := u8_lt s[0]
    have hd0 := drop_at s 0 h0
    rw [List.drop_zero] at hd0
    by_cases c92 : (s[0].toNat : Int) = 92
    · by_cases h1 : s.size = 1
      · rw [hd0, show s[0] = 92 from u8_eq (c := s[0]) (d := 92) c92, drop_end s _ (by omega)]
        exact rOneB s h0 hne c92 (by omega) w
      · exact rOneC s hs (by omega) hne c92 w
    · have c92' : ¬ s[0] = 92 := fun e => c92 (by rw [e]; rfl)
      have key := rOneA s h0 hne _ rfl w
      rw [hd0]
      by_cases clo : s[0] < (32 : UInt8) ∨ (126 : UInt8) < s[0] ∨ s[0] = (34 : UInt8)
      · simp only [oneL, if_neg c92', if_pos clo]
        refine key 0 0 false (.inl ⟨?_, rfl, rfl, rfl⟩)
        rcases clo with h | h | h
        · have := UInt8.lt_iff_toNat_lt.1 h; simp at this; omega
        · have := UInt8.lt_iff_toNat_lt.1 h; simp at this; omega
        · rw [h]; exact .inr (.inr rfl)
      · simp only [oneL, if_neg c92', if_neg clo]
        refine key _ 1 true (.inr ⟨⟨?_, ?_, ?_, c92⟩, rfl, rfl, rfl⟩)
        · have : ¬ s[0] < (32 : UInt8) := fun h => clo (.inl h)
          rw [UInt8.lt_iff_toNat_lt] at this; simp at this; omega
        · have : ¬ (126 : UInt8) < s[0] := fun h => clo (.inr (.inl h))
          rw [UInt8.lt_iff_toNat_lt] at this; simp at this; omega
        · exact fun h => clo (.inr (.inr (u8_eq (c := s[0]) (d := 34) h)))

set_option maxHeartbeats 4000000 in
theorem rRead (s : ByteArray) (hs : s.size ≤ 100000) (w : World) : Calls Tryz.prog 136 #[.string s] w fun e w' => e = .returned (rdV s.size (readT s.data.toList)) ∧ Below w.heap.size w w' := by
  by_cases h0 : s.size = 0
  · obtain rfl : s = ⟨#[]⟩ := by
      apply ByteArray.ext
      exact Array.eq_empty_of_size_eq_zero h0
    go_enter Tryz.func136, Tryz.ntmps136
    go_wp2_with fail
    go_ret3
    exact ⟨rfl, (Below.refl _ _).alloc (Nat.le_refl _) _⟩
  · have hne : s.toList.isEmpty = false := by
      rw [ByteArray.toList_eq]
      cases hl : s.data.toList with
      | nil => have : s.data.toList.length = s.size := rfl
               rw [hl] at this; simp at this; omega
      | cons _ _ => rfl
    have h1 : 0 < s.size := by omega
    have hd := drop_at s 0 h1
    rw [List.drop_zero] at hd
    by_cases hq : (s[0].toNat : Int) = 34
    · have hr : readT s.data.toList = ((rdL (s.data.toList.drop 1)).1, 1 + (rdL (s.data.toList.drop 1)).2) := by
        rw [hd]; simp only [readT, if_pos (u8_eq (c := s[0]) (d := 34) hq)]
        rfl
      have HR := Lib.hid hr
      clear hr hd
      generalize hT : readT s.data.toList = T at HR ⊢
      clear hT
      go_enter Tryz.func136, Tryz.ntmps136
      go_wp2_with fail
      generalize hB : w.heap.size = B at *
      have hBs : B ≤ w.heap.size := Nat.le_of_eq hB.symm
      have HB := Lib.hid hB
      have hob0 : OB 5 B (w.alloc (.cells #[] 5)) (.slice (some ⟨B, 0, none⟩) 0 0) [] := by
        rw [← hB]; exact OB.empty (Nat.le_refl _)
      have hb0 : Below B w (w.alloc (.cells #[] 5)) := (Below.refl _ _).alloc hBs _
      clear hB
      go_loopw [5, 6] (fun iv ov wr => ∃ (k : Nat) (ao : Option Addr) (cap : Nat) (acc : List UInt8), iv = .int .i64 k ∧ ov = .slice ao acc.length cap ∧ 1 ≤ k ∧ k ≤ s.size ∧ acc.length ≤ k ∧ OB 5 B wr (.slice ao acc.length cap) acc ∧ Below B w wr ∧
        Hid (T = ((rdL (s.data.toList.drop k)).1.map (acc ++ ·), k + (rdL (s.data.toList.drop k)).2))) (fun iv _ _ => s.size - (intOf iv).toNat)
      case atStart => exact ⟨1, _, 0, [], rfl, rfl, Nat.le_refl _, h1, Nat.zero_le _, hob0, hb0, Lib.hid (by rw [HR.out]; simp)⟩
      case round =>
        obtain ⟨k, ao, cap, acc, rfl, rfl, hk1, hk, hal, hob, hb, hH⟩ := hrel
        clear HR hne h0 hq hob0 hb0
        have e0 : (0 : Int) ≤ (k : Int) := by omega
        have e00 : (k : Int) ≤ (s.size : Int) := by omega
        have ho := fun w => rOne (s.extract k s.size) (by simp; omega) w
        have hol := (oneL_le (s.data.toList.drop k))
        have hdl : (s.data.toList.drop k).length = s.size - k := by rw [List.length_drop]; rfl
        have hext : (s.extract k s.size).data.toList = s.data.toList.drop k := by
          rw [ByteArray.data_extract, Array.toList_extract, List.extract_eq_take_drop]
          exact List.take_of_length_le (by rw [hdl]; exact Nat.le_refl _)
        rw [hext] at ho
        rw [hdl] at hol
        clear hext hdl
        have hend : (k < s.size ∧ ∃ h : k < s.size, (s[k].toNat : Int) = 34) ∨ ((s.data.toList.drop k).head? ≠ some 34 ∧ (k < s.size → ∃ h : k < s.size, ¬ (s[k].toNat : Int) = 34)) := by
          rcases Nat.lt_or_ge k s.size with hlt | hge
          · by_cases c34 : (s[k].toNat : Int) = 34
            · exact .inl ⟨hlt, hlt, c34⟩
            · refine .inr ⟨?_, fun _ => ⟨hlt, c34⟩⟩
              rw [drop_at s k hlt]
              intro e
              exact c34 (by rw [show s[k] = 34 from by simpa using e]; rfl)
          · refine .inr ⟨by rw [drop_end s k hge]; simp, fun h => by omega⟩
        rcases hend with ⟨hlt, _, c34⟩ | ⟨h34, hk34⟩
        · have e1 : (k : Int) < (s.size : Int) := by omega
          have hcv := hob.text (P := Tryz.prog) Tryz.underlying64 Tryz.underlying5 Tryz.underlying9
          have hr := Below.refl wr.heap.size wr
          have hV : rdV s.size T = .tuple #[.string ⟨acc.toArray⟩, .int .i64 ((k : Int) + 1), .int .i64 0] := by
            rw [hH.out, rdL_end (by rw [drop_at s k hlt, show s[k] = 34 from u8_eq (c := s[k]) (d := 34) c34]; rfl)]
            simp [rdV]
          have HV := Lib.hid hV
          clear hV hob hH ho hol
          go_wp2_with fail
          go_ret3
          have hBe := HB.out
          exact ⟨by rw [HV.out]; rfl, by rw [hBe]; exact hb⟩
        · have hway : (¬ (k : Int) < (s.size : Int)) ∨ ((k : Int) < (s.size : Int) ∧ ∃ h : k < s.size, ((s[k].toNat : Int) == 34) = false) := by
            rcases Nat.lt_or_ge k s.size with h | h
            · obtain ⟨h', hh⟩ := hk34 h
              exact .inr ⟨by omega, h', ne_b hh⟩
            · exact .inl (by omega)
          clear hk34
          rcases hres : oneL (s.data.toList.drop k) with ⟨_ | b, n⟩
          · have hV := rd_stop hH.out h34 hres
            rw [hres] at ho hol
            have HO := Lib.hid ho
            have hle : k + n ≤ s.size := by have := hol.1; simp only at this; omega
            by_cases hen : k + n = s.size
            · have HV := Lib.hid (show rdV s.size T = .tuple #[.string ⟨#[]⟩, .int .i64 ((k : Int) + (n : Int)), .int .i64 3] by rw [hV]; simp [rdV, hen]; rw [← hen]; omega)
              have e1 : ((k : Int) + (n : Int) == (s.size : Int)) = true := by rw [beq_iff_eq]; omega
              clear hen hV hH hob ho hol hres h34
              rcases hway with e2 | ⟨e2, _, e3⟩
              all_goals (
                go_wp2_with fail
                refine (HO.out _).mono ?_; rintro e w1 ⟨rfl, hb1⟩
                have hb2 := hb.up hb1 hBs
                go_wp2_with fail
                go_ret3
                have hBe := HB.out
                exact ⟨by rw [HV.out]; first | rfl | (simp; done), by rw [hBe]; exact hb2⟩)
            · have HV := Lib.hid (show rdV s.size T = .tuple #[.string ⟨#[]⟩, .int .i64 ((k : Int) + (n : Int)), .int .i64 2] by rw [hV]; simp [rdV, hen])
              have e1 : ((k : Int) + (n : Int) == (s.size : Int)) = false := ne_b (by omega)
              clear hV hH hob ho hol hres h34 hen
              rcases hway with e2 | ⟨e2, _, e3⟩
              all_goals (
                go_wp2_with fail
                refine (HO.out _).mono ?_; rintro e w1 ⟨rfl, hb1⟩
                have hb2 := hb.up hb1 hBs
                go_wp2_with fail
                go_ret3
                have hBe := HB.out
                exact ⟨by rw [HV.out]; first | rfl | (simp; done), by rw [hBe]; exact hb2⟩)
          · have hV := rd_next hH.out h34 hres
            rw [List.drop_drop] at hV
            rw [hres] at ho hol
            have HO := Lib.hid ho
            have HV := Lib.hid hV
            have hle : k + n ≤ s.size := by have := hol.1; simp only at this; omega
            have hn1 : 1 ≤ n := hol.2 (by simp)
            have hm : acc.length ≤ 1000000 := by omega
            clear hV hH ho hol hres h34
            rcases hway with e2 | ⟨e2, _, e3⟩
            · exact absurd hle (by omega)
            · go_wp2_with fail
              refine (HO.out _).mono ?_; rintro e w1 ⟨rfl, hb1⟩
              have hb2 := hb.up hb1 hBs
              have hob1 := hob.later hb1
              clear hb hb1 hob
              go_wp2_with (at_builtin; refine wpList_append_byte infoByte Tryz.underlying64 _ rfl _ _ rfl B _ _ rfl (hob1.alloc _) w1.heap.size rfl b ?c1 ?c2 ?c3 ?c4)
              case c1 => exact cell_new1 _ _ _
              case c2 => omega
              case c3 => have := hb2.size; simp; omega
              case c4 =>
                intro ao' cap' w' g1 g2
                have hb' : Below B w w' := OB.below (hob1.alloc _) (hb2.alloc (by have := hb2.size; omega) _) g2 hBs
                have hl1 : (acc ++ [b]).length = acc.length + 1 := by simp
                clear g2 hob1 hb2
                go_wp2_with fail
                go_roundw
                case rel => exact ⟨k + n, ao', cap', acc ++ [b], by go_num, by rw [hl1], by omega, hle, by omega, by rw [hl1]; exact g1, hb', HV⟩
                case measure => simp [intOf]; omega
    · have hr : readT s.data.toList = (none, 0) := by
        rw [hd]; simp only [readT, if_neg (fun e : s[0] = 34 => hq (by rw [e]; rfl))]
      have hV : rdV s.size (none, 0) = .tuple #[.string ⟨#[]⟩, .int .i64 0, .int .i64 2] := by
        have : ¬ 0 = s.size := fun e => h0 e.symm
        simp [rdV, this]
      rw [hr, hV]
      clear hV
      have hb := ne_b hq
      have hb2 := ne_b (show ¬ (0 : Int) = (s.size : Int) by omega)
      clear hq hr hd
      go_enter Tryz.func136, Tryz.ntmps136
      go_wp2_with fail
      go_ret3
      exact ⟨rfl, (Below.refl _ _).alloc (Nat.le_refl _) _⟩

end Go.Proofs.YtmnkekepccdlcaaGreatDoor
