/-
  Contracts of the reference of package lex: the first word, and all words of a line.
  Conditions: a line of at most 100000 bytes.
-/
import Derived.Test.YtmnkekepccdlcaaGreatDoorWgD
namespace Go.Proofs.YtmnkekepccdlcaaGreatDoor
set_option linter.unusedVariables false
set_option linter.unusedSimpArgs false
open Go.RowKit

/-- What the first word of a text gives. -/
def OnePost (r : Option (List UInt8 × Bool) × Nat × Int) (w : World) (e : Ending) (w' : World) : Prop :=
  ∃ tx qq, e = .returned (.tuple #[.agg #[.string tx, .bool qq, .int .i64 0], .int .i64 (r.2.1 : Nat), .int .i64 r.2.2]) ∧ (∀ x q, r.1 = some (x, q) → tx = bt x ∧ qq = q) ∧ Below w.heap.size w w'

set_option maxHeartbeats 4000000 in
set_option maxRecDepth 100000 in
theorem yOne (s : ByteArray) (hs : s.size ≤ 100000) (w : World) : Calls Tryz.prog 120 #[.string s] w (OnePost (oneW s.data.toList) w) := by
  have hsl : s.data.toList.length = s.size := rfl
  by_cases hq34 : ∃ h : 0 < s.size, (s[0].toNat : Int) = 34
  · obtain ⟨hlt, c34⟩ := hq34
    have hh : s.data.toList.head? = some 34 := by
      have := drop_at s 0 hlt
      rw [List.drop_zero] at this
      rw [this, show s[0] = 34 from u8_eq (c := s[0]) (d := 34) c34]; rfl
    have hne : s.toList.isEmpty = false := by
      rw [ByteArray.toList_eq]
      cases hl : s.data.toList with
      | nil => rw [hl] at hsl; simp at hsl; omega
      | cons _ _ => rfl
    have hrd := fun w => rRead s (by omega) w
    have hone : oneW s.data.toList = ((readT s.data.toList).1.map (fun l => (l, true)), (readT s.data.toList).2, if (readT s.data.toList).1.isSome then 0 else if (readT s.data.toList).2 = s.size then 3 else 2) := by
      unfold oneW; rw [if_pos hh, hsl]
    rw [hone]
    generalize readT s.data.toList = R at *
    clear hone hh
    rcases R with ⟨_ | l, n⟩
    · simp only [rdV] at hrd
      simp only [Option.map_none, Option.isSome_none, Bool.false_eq_true, if_false]
      generalize (if n = s.size then (3 : Int) else 2) = er at *
      have HR := Lib.hid hrd
      clear hrd
      go_enter Tryz.func120, Tryz.ntmps120
      go_wp2_with fail
      refine (HR.out _).mono ?_; rintro e w1 ⟨rfl, hb1⟩
      have hz : w.heap.size < w1.heap.size := by have := hb1.size; simp at this; omega
      have kk := (Blk.new w 123 #[.string ⟨#[]⟩, .bool false, .int .i64 0]).later hb1
      have dk := kk.at3
      have hr := Below.refl w1.heap.size w1
      have hb2 : Below w.heap.size w w1 := ((Below.refl _ _).alloc (Nat.le_refl _) _).trans (hb1.mono (by simp))
      go_wp2_with fail
      exact bodyPost_ret (v := .tuple #[.agg #[.string ⟨#[]⟩, .bool true, .int .i64 0], .int .i64 n, .int .i64 er]) (by simp [results, Tryz.results120, go_sem, kk.cell]) rfl ⟨_, _, rfl, by simp, by (repeat' (first | exact Below.refl _ _ | assumption | apply Below.drew | apply below_drewN | refine Below.setCell ?_ (by first | assumption | (simp; done) | (simp <;> omega)) _ | refine Below.alloc ?_ (by first | exact Nat.le_refl _ | assumption | (simp; done) | (simp <;> omega)) _))⟩
    · simp only [rdV] at hrd
      simp only [Option.map_some, Option.isSome_some, if_true]
      obtain ⟨tl, htl⟩ : ∃ tl : ByteArray, tl = ⟨l.toArray⟩ := ⟨_, rfl⟩
      rw [← htl] at hrd
      have HR := Lib.hid hrd
      have HTL := Lib.hid htl
      clear hrd htl
      go_enter Tryz.func120, Tryz.ntmps120
      go_wp2_with fail
      refine (HR.out _).mono ?_; rintro e w1 ⟨rfl, hb1⟩
      have hz : w.heap.size < w1.heap.size := by have := hb1.size; simp at this; omega
      have kk := (Blk.new w 123 #[.string ⟨#[]⟩, .bool false, .int .i64 0]).later hb1
      have dk := kk.at3
      have hr := Below.refl w1.heap.size w1
      have hb2 : Below w.heap.size w w1 := ((Below.refl _ _).alloc (Nat.le_refl _) _).trans (hb1.mono (by simp))
      go_wp2_with fail
      exact bodyPost_ret (v := .tuple #[.agg #[.string tl, .bool true, .int .i64 0], .int .i64 n, .int .i64 0]) (by simp [results, Tryz.results120, go_sem, kk.cell]) rfl ⟨_, _, rfl, fun x q h => by
        simp only [Option.some.injEq, Prod.mk.injEq] at h
        obtain ⟨rfl, rfl⟩ := h
        exact ⟨HTL.out, rfl⟩, by (repeat' (first | exact Below.refl _ _ | assumption | apply Below.drew | apply below_drewN | refine Below.setCell ?_ (by first | assumption | (simp; done) | (simp <;> omega)) _ | refine Below.alloc ?_ (by first | exact Nat.le_refl _ | assumption | (simp; done) | (simp <;> omega)) _))⟩
  · have hh : s.data.toList.head? ≠ some 34 := by
      intro e
      rcases Nat.eq_zero_or_pos s.size with h | h
      · have : s.data.toList = [] := List.eq_nil_of_length_eq_zero (by omega)
        rw [this] at e
        cases e
      · have := drop_at s 0 h
        rw [List.drop_zero] at this
        rw [this] at e
        exact hq34 ⟨h, by rw [show s[0] = 34 from by simpa using e]; rfl⟩
    have hone : oneW s.data.toList = if bareN s.data.toList = 0 then (none, 0, if s.data.toList = [] then 3 else 2) else (some (s.data.toList.take (bareN s.data.toList), false), bareN s.data.toList, 0) := by
      unfold oneW; rw [if_neg hh]
    have hway : (s = ⟨#[]⟩) ∨ (s.toList.isEmpty = false ∧ s.data.toList ≠ [] ∧ ∃ h : 0 < s.size, ((s[0].toNat : Int) == 34) = false) := by
      rcases Nat.eq_zero_or_pos s.size with h | h
      · exact .inl (ByteArray.ext (Array.eq_empty_of_size_eq_zero h))
      · refine .inr ⟨?_, ?_, h, ne_b (fun e => hq34 ⟨h, e⟩)⟩
        · rw [ByteArray.toList_eq]
          cases hl : s.data.toList with
          | nil => rw [hl] at hsl; simp at hsl; omega
          | cons _ _ => rfl
        · intro e
          rw [e] at hsl; simp at hsl; omega
    clear hq34 hh
    rcases hway with rfl | ⟨hne, hnn, h0, h34⟩
    · rw [show oneW (⟨#[]⟩ : ByteArray).data.toList = (none, 0, 3) from rfl]
      clear hone hsl
      go_enter Tryz.func120, Tryz.ntmps120
      go_wp2_with fail
      refine wp_loop_rounds 1 ?_
      rw [rounds_succ]
      go_wp2_with fail
      have kk := (Blk.new w 123 #[.string ⟨#[]⟩, .bool false, .int .i64 0])
      exact bodyPost_ret (v := .tuple #[.agg #[.string ⟨#[]⟩, .bool false, .int .i64 0], .int .i64 0, .int .i64 3]) (by simp [results, Tryz.results120, go_sem, kk.cell]) rfl ⟨_, _, rfl, fun x q h => (by cases h), by (repeat' (first | exact Below.refl _ _ | assumption | apply Below.drew | apply below_drewN | refine Below.setCell ?_ (by first | assumption | (simp; done) | (simp <;> omega)) _ | refine Below.alloc ?_ (by first | exact Nat.le_refl _ | assumption | (simp; done) | (simp <;> omega)) _))⟩
    · have HONE := Lib.hid hone
      generalize hTe : oneW s.data.toList = T at HONE ⊢
      clear hone hTe
      have kk := (Blk.new w 123 #[.string ⟨#[]⟩, .bool false, .int .i64 0])
      have hb2 : Below w.heap.size w (w.alloc (.cells #[.string ⟨#[]⟩, .bool false, .int .i64 0] 123)) := (Below.refl _ _).alloc (Nat.le_refl _) _
      have hz2 : w.heap.size < (w.alloc (.cells #[.string ⟨#[]⟩, .bool false, .int .i64 0] 123)).heap.size := by simp
      generalize hw0 : w.alloc (.cells #[.string ⟨#[]⟩, .bool false, .int .i64 0] 123) = w0 at kk hb2 hz2
      have HW0 := Lib.hid hw0
      clear hw0
      go_enter Tryz.func120, Tryz.ntmps120
      go_upto_region 1 with fail
      rw [HW0.out]
      go_wp2_with fail
      go_loopw [8] (fun iv wr => ∃ k : Nat, iv = .int .i64 k ∧ k ≤ s.size ∧ Hid (∀ j (h : j < s.size), j < k → plainB s[j] = true) ∧ w0 = wr) (fun iv _ => s.size - (intOf iv).toNat)
      case atStart => exact ⟨0, rfl, Nat.zero_le _, Lib.hid (fun j _ h => absurd h (by omega)), rfl⟩
      case round =>
        obtain ⟨k, rfl, hk, hH, rfl⟩ := hrel
        have e0 : (0 : Int) ≤ (k : Int) := by omega
        have hmore : (k < s.size ∧ ∃ h : k < s.size, plainB s[k] = true) ∨ (bareN s.data.toList = k ∧ (¬ (k : Int) < (s.size : Int) ∨ ((k : Int) < (s.size : Int) ∧ ∃ h : k < s.size, plainB s[k] = false))) := by
          rcases Nat.lt_or_ge k s.size with h | h
          · cases hb : plainB s[k] with
            | true => exact .inl ⟨h, h, hb⟩
            | false => exact .inr ⟨bareN_at s k hk hH.out (.inr ⟨h, hb⟩), .inr ⟨by omega, h, hb⟩⟩
          · exact .inr ⟨bareN_at s k hk hH.out (.inl (by omega)), .inl (by omega)⟩
        rcases hmore with ⟨hlt, _, hpl⟩ | ⟨hbn, hway⟩
        · have e1 : (k : Int) < (s.size : Int) := by omega
          have hp := fun w => yPlain s[k] w
          rw [hpl] at hp
          have HP := Lib.hid hp
          have HB := Lib.hid hpl
          clear hp hpl
          go_wp2_with fail
          refine (HP.out _).mono ?_; rintro e w1 ⟨rfl, rfl⟩
          go_wp2_with fail
          go_roundw
          case rel => exact ⟨k + 1, by go_num, by omega, Lib.hid (fun j h hj => by
            by_cases e : j = k
            · subst e; exact HB.out
            · exact hH.out j h (by omega)), trivial⟩
          case measure => simp [intOf]; omega
        · have dk := kk.at3
          have hr := Below.refl w0.heap.size w0
          have hT := HONE.out
          rw [hbn, if_neg hnn] at hT
          have hp : k < s.size → ∀ w, ∃ h : k < s.size, Calls Tryz.prog 137 #[bval s[k]] w fun e w' => e = .returned (.bool (plainB s[k])) ∧ w = w' := fun h w => ⟨h, yPlain s[k] w⟩
          have HP := Lib.hid hp
          clear hp HONE hbn hH
          by_cases hk0 : k = 0
          · subst hk0
            rw [if_pos rfl] at hT
            subst hT
            rcases hway with e1 | ⟨e1, h, hpl⟩
            · exact absurd h0 (by omega)
            · go_wp2_with fail
              obtain ⟨_, hc⟩ := HP.out h0 w0
              rw [hpl] at hc
              refine hc.mono ?_; rintro e w1 ⟨rfl, rfl⟩
              go_wp2_with fail
              exact bodyPost_ret (v := .tuple #[.agg #[.string ⟨#[]⟩, .bool false, .int .i64 0], .int .i64 0, .int .i64 2]) (by simp [results, Tryz.results120, go_sem, kk.cell]) rfl ⟨_, _, rfl, fun x q h => (by cases h), by (repeat' (first | exact Below.refl _ _ | assumption | apply Below.drew | apply below_drewN | refine Below.setCell ?_ (by first | assumption | (simp; done) | (simp <;> omega)) _ | refine Below.alloc ?_ (by first | exact Nat.le_refl _ | assumption | (simp; done) | (simp <;> omega)) _))⟩
          · have hk0b : ((k : Int) == 0) = false := ne_b (by omega)
            have e00 : (k : Int) ≤ (s.size : Int) := by omega
            rw [if_neg hk0] at hT
            subst hT
            have hxe : (bt (s.data.toList.take k) : ByteArray) = s.extract 0 k := by
              apply ByteArray.ext
              apply Array.toList_inj.1
              rw [ByteArray.data_extract, Array.toList_extract, List.extract_eq_take_drop, Nat.sub_zero, List.drop_zero]
            have HXE := Lib.hid hxe
            clear hxe
            rcases hway with e1 | ⟨e1, h, hpl⟩
            · go_wp2_with fail
              exact bodyPost_ret (v := .tuple #[.agg #[.string (s.extract 0 k), .bool false, .int .i64 0], .int .i64 k, .int .i64 0]) (by simp [results, Tryz.results120, go_sem, kk.cell]) rfl ⟨_, _, rfl, fun x q h => (by
                simp only [Option.some.injEq, Prod.mk.injEq] at h
                obtain ⟨rfl, rfl⟩ := h
                exact ⟨HXE.out.symm, rfl⟩), by (repeat' (first | exact Below.refl _ _ | assumption | apply Below.drew | apply below_drewN | refine Below.setCell ?_ (by first | assumption | (simp; done) | (simp <;> omega)) _ | refine Below.alloc ?_ (by first | exact Nat.le_refl _ | assumption | (simp; done) | (simp <;> omega)) _))⟩
            · go_wp2_with fail
              obtain ⟨_, hc⟩ := HP.out (by omega) w0
              rw [hpl] at hc
              refine hc.mono ?_; rintro e w1 ⟨rfl, rfl⟩
              go_wp2_with fail
              exact bodyPost_ret (v := .tuple #[.agg #[.string (s.extract 0 k), .bool false, .int .i64 0], .int .i64 k, .int .i64 0]) (by simp [results, Tryz.results120, go_sem, kk.cell]) rfl ⟨_, _, rfl, fun x q h => (by
                simp only [Option.some.injEq, Prod.mk.injEq] at h
                obtain ⟨rfl, rfl⟩ := h
                exact ⟨HXE.out.symm, rfl⟩), by (repeat' (first | exact Below.refl _ _ | assumption | apply Below.drew | apply below_drewN | refine Below.setCell ?_ (by first | assumption | (simp; done) | (simp <;> omega)) _ | refine Below.alloc ?_ (by first | exact Nat.le_refl _ | assumption | (simp; done) | (simp <;> omega)) _))⟩

theorem infoWordR : (Tryz.prog.info? 123).map (fun i => (i.zero, i.size, i.bytes)) = some (some (.agg #[.string ⟨#[]⟩, .bool false, .int .i64 0]), 3, 32) := by kernel_rfl
theorem oneW_zero {t x : List UInt8} {q : Bool} {n : Nat} {e : Int} (h : oneW t = (some (x, q), n, e)) : e = 0 := by
  unfold oneW at h
  split at h
  · cases hr : (readT t).1 with
    | none => simp [hr] at h
    | some l => simp [hr] at h; omega
  · split at h
    · simp at h
    · simp at h; omega
theorem oneW_err {t : List UInt8} {n : Nat} {e : Int} (h : oneW t = (none, n, e)) : ¬ e = 0 := by
  unfold oneW at h
  split at h
  · cases hr : (readT t).1 with
    | none =>
      simp [hr] at h
      obtain ⟨_, rfl⟩ := h
      split <;> decide
    | some l => simp [hr] at h
  · split at h
    · simp at h
      obtain ⟨_, rfl⟩ := h
      split <;> decide
    · simp at h
theorem oneW_pos {t x : List UInt8} {q : Bool} {n : Nat} {e : Int} (h : oneW t = (some (x, q), n, e)) : 1 ≤ n := by
  unfold oneW at h
  split at h
  · rename_i h34
    cases t with
    | nil => cases h34
    | cons c t =>
      simp at h34
      subst h34
      simp only [readT, if_true, Prod.mk.injEq] at h
      omega
  · split at h
    · simp at h
    · simp at h; omega

set_option maxHeartbeats 8000000 in
set_option maxRecDepth 100000 in
theorem yWords (s : ByteArray) (hs : s.size ≤ 100000) (w : World) :
    Calls Tryz.prog 88 #[.string s] w (WordsPost 123 w.heap.size (wordsT s.data.toList) w) := by
  by_cases h1200 : 1200 < s.size
  · have hT : wordsT s.data.toList = (none, 1200, 4) := if_pos h1200
    rw [hT]
    have e1 : (1200 : Int) < (s.size : Int) := by omega
    go_enter Tryz.func88, Tryz.ntmps88
    go_wp2_with fail
    go_ret3
    exact ⟨none, 0, rfl, World.ownsRow_nil _ _ _ _, (Below.refl _ _).alloc (Nat.le_refl _) _⟩
  · by_cases h0 : s.size = 0
    · obtain rfl : s = ⟨#[]⟩ := by
        apply ByteArray.ext
        exact Array.eq_empty_of_size_eq_zero h0
      go_enter Tryz.func88, Tryz.ntmps88
      go_wp2_with fail
      go_ret3
      exact ⟨some ⟨w.heap.size, 0, none⟩, 0, rfl, orow_empty _ _ _ _ (Nat.le_refl _), (Below.refl _ _).alloc (Nat.le_refl _) _⟩
    · have hne : s.toList.isEmpty = false := by
        rw [ByteArray.toList_eq]
        cases hl : s.data.toList with
        | nil => have : s.data.toList.length = s.size := rfl
                 rw [hl] at this; simp at this; omega
        | cons _ _ => rfl
      have hT : wordsT s.data.toList = wordsL s.data.toList 0 := by
        have hl : s.data.toList.length = s.size := rfl
        have hn : s.data.toList ≠ [] := by
          intro e
          rw [e] at hl
          exact h0 (by simpa using hl.symm)
        unfold wordsT
        rw [if_neg (show ¬ 1200 < s.data.toList.length from h1200), if_neg hn]
      have HT := Lib.hid hT
      clear hT
      generalize wordsT s.data.toList = T at HT ⊢
      have h12 : ¬ (1200 : Int) < (s.size : Int) := by omega
      go_enter Tryz.func88, Tryz.ntmps88
      go_wp2_with fail
      have hob0 := orow_empty 123 3 w.heap.size w (Nat.le_refl _)
      have hb0 : Below w.heap.size w (w.alloc (.cells #[] 123)) := (Below.refl _ _).alloc (Nat.le_refl _) _
      generalize hB : w.heap.size = B at *
      have hBs : B ≤ w.heap.size := Nat.le_of_eq hB.symm
      have HB := Lib.hid hB
      clear hB
      go_loopw [5, 6] (fun ov iv wr => ∃ (k : Nat) (ao : Option Addr) (cap : Nat) (acc : List Wd), iv = .int .i64 k ∧ ov = .slice ao acc.length cap ∧ k ≤ s.size ∧ acc.length ≤ k ∧ OW 123 B wr ao cap acc ∧ Below B w wr ∧
        Hid (T = ((wordsL (s.data.toList.drop k) k).1.map (acc ++ ·), (wordsL (s.data.toList.drop k) k).2))) (fun _ iv _ => s.size + 1 - (intOf iv).toNat)
      case atStart => exact ⟨0, _, 0, [], rfl, rfl, Nat.zero_le _, Nat.zero_le _, hob0, hb0, Lib.hid (by rw [HT.out]; simp)⟩
      case round =>
        obtain ⟨k, ao, cap, acc, rfl, rfl, hk, hal, how, hb, hH⟩ := hrel
        clear HT hne h0 h12 h1200 hob0 hb0
        have e0 : (0 : Int) ≤ (k : Int) := by omega
        have e00 : (k : Int) ≤ (s.size : Int) := by omega
        have hsz : (s.extract k s.size).size = s.size - k := by simp
        have hon := fun w => yOne (s.extract k s.size) (by omega) w
        rw [ext_drop] at hon
        have hole := oneW_le (s.data.toList.drop k)
        have hdl : (s.data.toList.drop k).length = s.size - k := by rw [List.length_drop]; rfl
        rw [hdl] at hole
        rcases hone : oneW (s.data.toList.drop k) with ⟨_ | ⟨x, qd⟩, n, er⟩
        · have h0 := ne_b (oneW_err hone)
          have hV : T = (none, k + n, er) := words_stop hH.out hone
          rw [hone] at hon hole
          simp only at hole
          have HON := Lib.hid hon
          subst hV
          clear hon hone hdl hsz hH
          go_wp2_with fail
          refine (HON.out _).mono ?_; rintro e w1 ⟨tx, qq, rfl, -, hb1⟩
          have hb2 := hb.up hb1 hBs
          go_wp2_with fail
          go_ret3
          have hBe := HB.out
          exact ⟨none, 0, rfl, World.ownsRow_nil _ _ _ _, by rw [hBe]; exact hb2.alloc (by have := hb2.size; omega) _⟩
        · obtain rfl := oneW_zero hone
          have hn1 := oneW_pos hone
          rw [hone] at hon hole
          simp only at hole
          have hn' : k + n ≤ s.size := by omega
          have HON := Lib.hid hon
          clear hon hdl hsz
          go_wp2_with fail
          refine (HON.out _).mono ?_; rintro e w1 ⟨tx, qq, rfl, htx, hb1⟩
          obtain ⟨htx1, htx2⟩ := htx x qd rfl
          have how1 := ow_later how hb1
          have hb2 := hb.up hb1 hBs
          have HTX := Lib.hid htx1
          subst htx2
          clear how hb hb1 htx htx1
          obtain ⟨q, hq⟩ : ∃ q, w1.heap.size = q := ⟨_, rfl⟩
          have hrow : ∀ g, (Value.slice ao acc.length cap).ownBlock = some g → g < q := fun g hg => hq ▸ (World.ownsRow.lt how1 g hg).2
          generalize hwa : w1.alloc (.cells #[.string tx, .bool qq, .int .i64 0] 123) = wa
          have ka : Blk wa q 123 #[.string tx, .bool qq, .int .i64 0] := by rw [← hwa, ← hq]; exact Blk.new _ _ _
          have hba : Below B w wa := by rw [← hwa]; exact hb2.alloc (Nat.le_trans hBs hb2.size) _
          have howa : OW 123 B wa ao cap acc := by rw [← hwa]; exact ow_later how1 ((Below.refl _ _).alloc (Nat.le_refl _) _)
          have hqB : B ≤ q := by rw [← hq]; exact Nat.le_trans hBs hb2.size
          have HWA := Lib.hid hwa
          have HQ := Lib.hid hq
          clear hwa hq how1 hb2
          go_upto_region 7 with fail
          rw [HQ.out, HWA.out]
          have dq := ka.at3
          have hr := Below.refl wa.heap.size wa
          go_upto_region 10 with fail
          generalize hw2 : wa.setCell ⟨q, 2, none⟩ (.int .i64 k) = w2
          have kc : Blk w2 q 123 #[.string tx, .bool qq, .int .i64 k] := by
            rw [← hw2]
            have := ka.set_ 2 (.int .i64 k)
            simpa using this
          have g2 : wa.grownBy w2 (some q) := by rw [← hw2]; exact set_only (World.grownBy.refl _ _) _ _
          have hb3 : Below B w w2 := hba.grown g2 (Nat.le_trans hBs hba.size) (fun j hj => by cases hj; exact hqB)
          have how2 : OW 123 B w2 ao cap acc := World.ownsRow.kept howa g2 (.inr (fun e => Nat.lt_irrefl _ (hrow q e)))
          clear hw2 g2 hba howa ka dq hr
          have dq := kc.at3
          have hr := Below.refl w2.heap.size w2
          have hm : acc.length ≤ 1000000 := by omega
          go_wp2_with (at_builtin; refine wpList_append_elem infoWordR rfl (by decide) (by decide) Tryz.underlying119 _ rfl _ _ rfl B _ _ _ rfl (World.ownsRow.alloc how2 _) w2.heap.size rfl (wcells ⟨x, qq, k⟩) rfl ?ta1 ?ta2 hm ?ta3 ?ta4)
          case ta1 =>
            intro j u hj
            rw [HTX.out]
            exact ((Blk.new w2 123 #[.string (bt x), .bool qq, .int .i64 k]).cell j).trans (by rw [← hj]; simp [wcells])
          case ta2 =>
            intro u hu
            simp [wcells] at hu
            rcases hu with rfl | rfl | rfl <;> rfl
          case ta3 => have := hb3.size; simp; omega
          case ta4 =>
            intro ao' cap' w3 g3 g4
            have hb4 : Below B w w3 := orow_below (World.ownsRow.alloc how2 _) (hb3.alloc (by have := hb3.size; omega) _) g4 hBs
            have hl1 : (acc ++ [(⟨x, qq, k⟩ : Wd)]).length = acc.length + 1 := by simp
            have how3 : OW 123 B w3 ao' cap' (acc ++ [⟨x, qq, k⟩]) := by
              unfold OW
              rw [hl1, wsCells_snoc]
              exact g3
            clear g3 g4 hb3 how2 kc dq hr
            have hr := Below.refl w3.heap.size w3
            by_cases hend : k + n = s.size
            · have hV := words_end hH.out hone (by rw [List.drop_drop]; exact drop_end s _ (by omega))
              have e5 : ((k : Int) + (n : Int) == (s.size : Int)) = true := by rw [beq_iff_eq]; omega
              subst hV
              clear hH hone hend
              go_wp2_with fail
              go_ret3
              have hBe := HB.out
              exact ⟨ao', cap', by simp only [Option.getD_some, hl1]; rfl, by simpa using how3, by rw [hBe]; exact hb4⟩
            · have hlt2 : k + n < s.size := by omega
              have e5 : ((k : Int) + (n : Int) == (s.size : Int)) = false := ne_b (by omega)
              have e6 : (k : Int) + (n : Int) < (s.size : Int) := by omega
              have hd2 := drop_at s (k + n) hlt2
              rw [← List.drop_drop] at hd2
              have hne2 : (s.data.toList.drop k).drop n ≠ [] := by rw [hd2]; simp
              by_cases c32 : (s[k + n].toNat : Int) = 32
              · have hV := words_go hH.out hone hne2 (by rw [hd2, show s[k + n] = 32 from u8_eq (c := s[k + n]) (d := 32) c32]; rfl)
                rw [List.drop_drop, ← Nat.add_assoc] at hV
                have HV := Lib.hid hV
                clear hV hd2 hne2 hH hone hend
                go_wp2_with fail
                go_roundw
                case rel => exact ⟨k + n + 1, ao', cap', acc ++ [⟨x, qq, k⟩], by go_num, by rw [hl1], by omega, by omega, how3, hb4, HV⟩
                case measure => simp [intOf]; omega
              · have hV := words_bad hH.out hone hne2 (by
                  rw [hd2]
                  intro e
                  exact c32 (by rw [show s[k + n] = 32 from by simpa using e]; rfl))
                have c32b := ne_b c32
                subst hV
                clear hd2 hne2 hH hone hend c32
                go_wp2_with fail
                go_ret3
                have hBe := HB.out
                exact ⟨none, 0, rfl, World.ownsRow_nil _ _ _ _, by rw [hBe]; exact hb4⟩
end Go.Proofs.YtmnkekepccdlcaaGreatDoor
