/-
  Which rounds may be, as package world tells it.
  Conditions: the round's rows lie in the world.
-/
import Derived.Test.YtmnkekepccdlcaaGreatDoorWgG
import Derived.Test.YtmnkekepccdlcaaGreatDoorWgF
namespace Go.Proofs.YtmnkekepccdlcaaGreatDoor
set_option linter.unusedVariables false
set_option linter.unusedSimpArgs false
open Go.RowKit

theorem xGood2 (o : Off) (w : World) : Calls Tryz.prog 94 #[.agg #[.int .i64 o.id, .string o.bytes, .bool o.eof]] w fun e w' => e = .returned (.bool (!goodO o)) ∧ Below w.heap.size w w' := by
  obtain ⟨id, bs, eof⟩ := o
  simp only
  have F := Lib.hid (fun w' => xIn id 4095 w')
  obtain ⟨w0, hw0⟩ : ∃ w0, w.alloc (.cells #[.int .i64 id, .string bs, .bool eof] 93) = w0 := ⟨_, rfl⟩
  have k0 : Blk w0 w.heap.size 93 #[.int .i64 id, .string bs, .bool eof] := by rw [← hw0]; exact Blk.new _ _ _
  have b0 : Below w.heap.size w w0 := by rw [← hw0]; exact (Below.refl _ _).alloc (Nat.le_refl _) _
  have HW0 := Lib.hid hw0
  clear hw0
  have dk := k0.at3
  have hr := Below.refl w0.heap.size w0
  unfold goodO
  simp only
  cases h1 : inT id 0 4095
  · rw [h1] at F
    rw [Bool.false_and]
    go_enter Tryz.func94, Tryz.ntmps94
    go_upto_region 1 with fail
    rw [HW0.out]
    go_wp2_with fail
    refine (F.out _).mono ?_; rintro e w1 ⟨rfl, rfl⟩
    go_wp2_with fail
    go_ret
    exact ⟨rfl, b0⟩
  · rw [h1] at F
    rw [Bool.true_and]
    by_cases h2 : bs.size ≤ 256
    · have h3 : ¬ (256 : Int) < (bs.size : Int) := by omega
      rw [decide_eq_true h2]
      clear h1
      go_enter Tryz.func94, Tryz.ntmps94
      go_upto_region 1 with fail
      rw [HW0.out]
      go_wp2_with fail
      refine (F.out _).mono ?_; rintro e w1 ⟨rfl, rfl⟩
      go_wp2_with fail
      go_ret
      exact ⟨ret_bool (decide_eq_false (by omega)), b0⟩
    · have h3 : (256 : Int) < (bs.size : Int) := by omega
      rw [decide_eq_false h2]
      clear h1
      go_enter Tryz.func94, Tryz.ntmps94
      go_upto_region 1 with fail
      rw [HW0.out]
      go_wp2_with fail
      refine (F.out _).mono ?_; rintro e w1 ⟨rfl, rfl⟩
      go_wp2_with fail
      go_ret
      exact ⟨rfl, b0⟩
set_option maxHeartbeats 1000000 in
theorem xGood3 (o : Rep) (w : World) : Calls Tryz.prog 95 #[.agg #[.int .i64 o.id, .bool o.read, .bool o.write, .int .i64 o.accept]] w fun e w' => e = .returned (.bool (!goodP o)) ∧ Below w.heap.size w w' := by
  obtain ⟨id, rd, wr, ac⟩ := o
  simp only
  have F := Lib.hid (fun w' => xIn id 4095 w')
  have F2 := Lib.hid (fun w' => xIn ac 4096 w')
  obtain ⟨w0, hw0⟩ : ∃ w0, w.alloc (.cells #[.int .i64 id, .bool rd, .bool wr, .int .i64 ac] 95) = w0 := ⟨_, rfl⟩
  have k0 : Blk w0 w.heap.size 95 #[.int .i64 id, .bool rd, .bool wr, .int .i64 ac] := by rw [← hw0]; exact Blk.new _ _ _
  have b0 : Below w.heap.size w w0 := by rw [← hw0]; exact (Below.refl _ _).alloc (Nat.le_refl _) _
  have HW0 := Lib.hid hw0
  clear hw0
  have hr := Below.refl w0.heap.size w0
  unfold goodP
  simp only
  cases h1 : inT id 0 4095
  · rw [h1] at F
    simp only [Bool.false_and]
    have dk := k0.at4
    go_enter Tryz.func95, Tryz.ntmps95
    go_upto_region 1 with fail
    rw [HW0.out]
    go_wp2_with fail
    refine (F.out _).mono ?_; rintro e w1 ⟨rfl, rfl⟩
    go_wp2_with fail
    go_ret
    exact ⟨rfl, b0⟩
  · rw [h1] at F
    cases rd <;> cases wr
    · simp only [Bool.or_self, Bool.and_false, Bool.false_and]
      have dk := k0.at4
      go_enter Tryz.func95, Tryz.ntmps95
      go_upto_region 1 with fail
      rw [HW0.out]
      go_wp2_with fail
      refine (F.out _).mono ?_; rintro e w1 ⟨rfl, rfl⟩
      go_wp2_with fail
      go_ret
      exact ⟨rfl, b0⟩
    · have dk := k0.at4
      cases h2 : inT ac 0 4096
      · rw [h2] at F2
        simp only [Bool.and_false, Bool.false_and]
        go_enter Tryz.func95, Tryz.ntmps95
        go_upto_region 1 with fail
        rw [HW0.out]
        go_wp2_with fail
        refine (F.out _).mono ?_; rintro e w1 ⟨rfl, rfl⟩
        go_wp2_with fail
        refine (F2.out _).mono ?_; rintro e w1 ⟨rfl, rfl⟩
        go_wp2_with fail
        go_ret
        exact ⟨rfl, b0⟩
      · have ha : 0 ≤ ac := by
          unfold inT at h2
          simp only [Bool.and_eq_true, decide_eq_true_eq] at h2
          exact h2.1
        rw [h2] at F2
        clear h1 h2
        simp only [Bool.or_true, Bool.true_or, Bool.true_and, Bool.and_true]
        go_enter Tryz.func95, Tryz.ntmps95
        go_upto_region 1 with fail
        rw [HW0.out]
        go_wp2_with fail
        refine (F.out _).mono ?_; rintro e w1 ⟨rfl, rfl⟩
        go_wp2_with fail
        refine (F2.out _).mono ?_; rintro e w1 ⟨rfl, rfl⟩
        go_wp2_with fail
        go_ret
        exact ⟨rfl, b0⟩
    · have dk := k0.at4
      cases h2 : inT ac 0 4096
      · rw [h2] at F2
        simp only [Bool.and_false, Bool.false_and]
        go_enter Tryz.func95, Tryz.ntmps95
        go_upto_region 1 with fail
        rw [HW0.out]
        go_wp2_with fail
        refine (F.out _).mono ?_; rintro e w1 ⟨rfl, rfl⟩
        go_wp2_with fail
        refine (F2.out _).mono ?_; rintro e w1 ⟨rfl, rfl⟩
        go_wp2_with fail
        go_ret
        exact ⟨rfl, b0⟩
      · have ha : 0 ≤ ac := by
          unfold inT at h2
          simp only [Bool.and_eq_true, decide_eq_true_eq] at h2
          exact h2.1
        rw [h2] at F2
        clear h1 h2
        by_cases h0 : ac = 0
        · subst h0
          have e0 : ¬ (0 : Int) < 0 := by omega
          simp only [Bool.or_false, Bool.true_or, Bool.true_and, decide_true, Bool.or_true]
          go_enter Tryz.func95, Tryz.ntmps95
          go_upto_region 1 with fail
          rw [HW0.out]
          go_wp2_with fail
          refine (F.out _).mono ?_; rintro e w1 ⟨rfl, rfl⟩
          go_wp2_with fail
          refine (F2.out _).mono ?_; rintro e w1 ⟨rfl, rfl⟩
          go_wp2_with fail
          go_ret
          exact ⟨rfl, b0⟩
        · have e0 : (0 : Int) < ac := by omega
          rw [decide_eq_false h0]
          simp only [Bool.or_false, Bool.true_or, Bool.true_and, Bool.and_false, Bool.or_self]
          go_enter Tryz.func95, Tryz.ntmps95
          go_upto_region 1 with fail
          rw [HW0.out]
          go_wp2_with fail
          refine (F.out _).mono ?_; rintro e w1 ⟨rfl, rfl⟩
          go_wp2_with fail
          refine (F2.out _).mono ?_; rintro e w1 ⟨rfl, rfl⟩
          go_wp2_with fail
          go_ret
          exact ⟨rfl, b0⟩
    · have dk := k0.at4
      cases h2 : inT ac 0 4096
      · rw [h2] at F2
        simp only [Bool.and_false, Bool.false_and]
        go_enter Tryz.func95, Tryz.ntmps95
        go_upto_region 1 with fail
        rw [HW0.out]
        go_wp2_with fail
        refine (F.out _).mono ?_; rintro e w1 ⟨rfl, rfl⟩
        go_wp2_with fail
        refine (F2.out _).mono ?_; rintro e w1 ⟨rfl, rfl⟩
        go_wp2_with fail
        go_ret
        exact ⟨rfl, b0⟩
      · have ha : 0 ≤ ac := by
          unfold inT at h2
          simp only [Bool.and_eq_true, decide_eq_true_eq] at h2
          exact h2.1
        rw [h2] at F2
        clear h1 h2
        simp only [Bool.or_true, Bool.true_or, Bool.true_and, Bool.and_true]
        go_enter Tryz.func95, Tryz.ntmps95
        go_upto_region 1 with fail
        rw [HW0.out]
        go_wp2_with fail
        refine (F.out _).mono ?_; rintro e w1 ⟨rfl, rfl⟩
        go_wp2_with fail
        refine (F2.out _).mono ?_; rintro e w1 ⟨rfl, rfl⟩
        go_wp2_with fail
        go_ret
        exact ⟨rfl, b0⟩

set_option maxHeartbeats 1000000 in
theorem xIdx1 (l : List Int) (ao : Option Addr) (cap : Nat) (w : World) (hd : ∀ k (_ : k < l.length), ∃ g off, ao = some ⟨g, off, none⟩ ∧ ∀ w', Below w.heap.size w w' → w'.cell? ⟨g, off + k, none⟩ = some (.int .i64 l[k])) (hl : l.length ≤ 1000000) :
    Calls Tryz.prog 122 #[.slice ao l.length cap, .func (.func 92) #[] #[]] w fun e w' => ∃ i : Int, e = .returned (.int .i64 i) ∧ decide (0 ≤ i) = !l.all (fun x => inT x 0 63) ∧ Below w.heap.size w w' := by
  have HD := Lib.hid hd
  clear hd
  go_enter Tryz.func122, Tryz.ntmps122
  go_wp2_with fail
  go_loopw [8] (fun iv wr => ∃ k : Nat, iv = .int .i64 k ∧ k ≤ l.length ∧ Hid ((l.take k).all (fun x => inT x 0 63) = true) ∧ Below w.heap.size w wr) (fun iv _ => l.length - (intOf iv).toNat)
  case atStart => exact ⟨0, rfl, Nat.zero_le _, Lib.hid rfl, Below.refl _ _⟩
  case round =>
    obtain ⟨k, rfl, hk, hA, hbw⟩ := hrel
    have e0 : (0 : Int) ≤ (k : Int) := by omega
    by_cases hlt : k < l.length
    · have e1 : (k : Int) < (l.length : Int) := by omega
      obtain ⟨g, off, rfl, d0⟩ := HD.out k hlt
      have d := d0 wr hbw
      have HT := Lib.hid (List.take_succ_eq_append_getElem hlt)
      have HM := Lib.hid (List.getElem_mem hlt)
      generalize l[k] = x at *
      have F := xGood1 x wr
      cases hg : (fun x => inT x 0 63) x
      · simp only at hg
        rw [hg] at F
        have F := Lib.hid F
        have HN : Hid (l.all (fun x => inT x 0 63) = false) := Lib.hid (by
          cases ha : l.all (fun x => inT x 0 63) with
          | false => rfl
          | true => have := List.all_eq_true.1 ha x HM.out; rw [hg] at this; cases this)
        clear hg d0
        go_wp2_with fail
        refine F.out.mono ?_; rintro e w1 ⟨rfl, b1⟩
        have hb2 := hbw.up b1
        go_wp2_with fail
        go_ret
        exact ⟨k, rfl, by rw [HN.out]; simp, hb2⟩
      · simp only at hg
        rw [hg] at F
        have F := Lib.hid F
        have HA : Hid ((l.take (k + 1)).all (fun x => inT x 0 63) = true) := Lib.hid (by rw [HT.out, List.all_append, hA.out, List.all_cons, hg]; rfl)
        clear hg d0 hA
        go_wp2_with fail
        refine F.out.mono ?_; rintro e w1 ⟨rfl, b1⟩
        have hb2 := hbw.up b1
        clear hbw d b1
        go_wp2_with fail
        go_roundw
        case rel => exact ⟨k + 1, by go_num, by omega, HA, hb2⟩
        case measure => simp [intOf]; omega
    · obtain rfl : k = l.length := by omega
      have e1 : ¬ ((l.length : Int) < (l.length : Int)) := by omega
      have hA2 := hA.out
      rw [List.take_length] at hA2
      have HA := Lib.hid hA2
      clear hA hA2
      go_wp2_with fail
      go_ret
      exact ⟨-1, rfl, by rw [HA.out]; rfl, hbw⟩
theorem xHas1 (l : List Int) (ao : Option Addr) (cap : Nat) (w : World) (hd : ∀ k (_ : k < l.length), ∃ g off, ao = some ⟨g, off, none⟩ ∧ ∀ w', Below w.heap.size w w' → w'.cell? ⟨g, off + k, none⟩ = some (.int .i64 l[k])) (hl : l.length ≤ 1000000) :
    Calls Tryz.prog 96 #[.slice ao l.length cap, .func (.func 92) #[] #[]] w fun e w' => e = .returned (.bool (!l.all (fun x => inT x 0 63))) ∧ Below w.heap.size w w' := by
  have F := Lib.hid (xIdx1 l ao cap w hd hl)
  obtain ⟨b, hb⟩ : ∃ b, (!l.all (fun x => inT x 0 63)) = b := ⟨_, rfl⟩
  rw [hb]
  have HB := Lib.hid hb
  clear hd hb
  go_enter Tryz.func96, Tryz.ntmps96
  go_wp2_with fail
  refine F.out.mono ?_; rintro e w1 ⟨i, rfl, hi, b1⟩
  rw [HB.out] at hi
  have HI := Lib.hid hi
  clear hi
  go_wp2_with fail
  go_ret
  exact ⟨ret_bool HI.out, b1⟩

set_option maxHeartbeats 1000000 in
theorem xIdx2 (l : List Off) (ao : Option Addr) (cap : Nat) (w : World) (hd : ∀ k (_ : k < l.length), ∃ g off, ao = some ⟨g, off, none⟩ ∧ ∀ w', Below w.heap.size w w' → w'.cell? ⟨g, off + k * 3, none⟩ = some (.int .i64 l[k].id) ∧ w'.cell? ⟨g, off + k * 3 + 1, none⟩ = some (.string l[k].bytes) ∧ w'.cell? ⟨g, off + k * 3 + 2, none⟩ = some (.bool l[k].eof)) (hl : l.length ≤ 1000000) :
    Calls Tryz.prog 123 #[.slice ao l.length cap, .func (.func 94) #[] #[]] w fun e w' => ∃ i : Int, e = .returned (.int .i64 i) ∧ decide (0 ≤ i) = !l.all (fun x => goodO x) ∧ Below w.heap.size w w' := by
  have HD := Lib.hid hd
  clear hd
  go_enter Tryz.func123, Tryz.ntmps123
  go_wp2_with fail
  go_loopw [8] (fun iv wr => ∃ k : Nat, iv = .int .i64 k ∧ k ≤ l.length ∧ Hid ((l.take k).all (fun x => goodO x) = true) ∧ Below w.heap.size w wr) (fun iv _ => l.length - (intOf iv).toNat)
  case atStart => exact ⟨0, rfl, Nat.zero_le _, Lib.hid rfl, Below.refl _ _⟩
  case round =>
    obtain ⟨k, rfl, hk, hA, hbw⟩ := hrel
    have e0 : (0 : Int) ≤ (k : Int) := by omega
    by_cases hlt : k < l.length
    · have e1 : (k : Int) < (l.length : Int) := by omega
      obtain ⟨g, off, rfl, d0⟩ := HD.out k hlt
      have d := d0 wr hbw
      have HT := Lib.hid (List.take_succ_eq_append_getElem hlt)
      have HM := Lib.hid (List.getElem_mem hlt)
      generalize l[k] = x at *
      have F := xGood2 x wr
      cases hg : (fun x => goodO x) x
      · simp only at hg
        rw [hg] at F
        have F := Lib.hid F
        have HN : Hid (l.all (fun x => goodO x) = false) := Lib.hid (by
          cases ha : l.all (fun x => goodO x) with
          | false => rfl
          | true => have := List.all_eq_true.1 ha x HM.out; rw [hg] at this; cases this)
        clear hg d0
        go_wp2_with fail
        refine F.out.mono ?_; rintro e w1 ⟨rfl, b1⟩
        have hb2 := hbw.up b1
        go_wp2_with fail
        go_ret
        exact ⟨k, rfl, by rw [HN.out]; simp, hb2⟩
      · simp only at hg
        rw [hg] at F
        have F := Lib.hid F
        have HA : Hid ((l.take (k + 1)).all (fun x => goodO x) = true) := Lib.hid (by rw [HT.out, List.all_append, hA.out, List.all_cons, hg]; rfl)
        clear hg d0 hA
        go_wp2_with fail
        refine F.out.mono ?_; rintro e w1 ⟨rfl, b1⟩
        have hb2 := hbw.up b1
        clear hbw d b1
        go_wp2_with fail
        go_roundw
        case rel => exact ⟨k + 1, by go_num, by omega, HA, hb2⟩
        case measure => simp [intOf]; omega
    · obtain rfl : k = l.length := by omega
      have e1 : ¬ ((l.length : Int) < (l.length : Int)) := by omega
      have hA2 := hA.out
      rw [List.take_length] at hA2
      have HA := Lib.hid hA2
      clear hA hA2
      go_wp2_with fail
      go_ret
      exact ⟨-1, rfl, by rw [HA.out]; rfl, hbw⟩
theorem xHas2 (l : List Off) (ao : Option Addr) (cap : Nat) (w : World) (hd : ∀ k (_ : k < l.length), ∃ g off, ao = some ⟨g, off, none⟩ ∧ ∀ w', Below w.heap.size w w' → w'.cell? ⟨g, off + k * 3, none⟩ = some (.int .i64 l[k].id) ∧ w'.cell? ⟨g, off + k * 3 + 1, none⟩ = some (.string l[k].bytes) ∧ w'.cell? ⟨g, off + k * 3 + 2, none⟩ = some (.bool l[k].eof)) (hl : l.length ≤ 1000000) :
    Calls Tryz.prog 97 #[.slice ao l.length cap, .func (.func 94) #[] #[]] w fun e w' => e = .returned (.bool (!l.all (fun x => goodO x))) ∧ Below w.heap.size w w' := by
  have F := Lib.hid (xIdx2 l ao cap w hd hl)
  obtain ⟨b, hb⟩ : ∃ b, (!l.all (fun x => goodO x)) = b := ⟨_, rfl⟩
  rw [hb]
  have HB := Lib.hid hb
  clear hd hb
  go_enter Tryz.func97, Tryz.ntmps97
  go_wp2_with fail
  refine F.out.mono ?_; rintro e w1 ⟨i, rfl, hi, b1⟩
  rw [HB.out] at hi
  have HI := Lib.hid hi
  clear hi
  go_wp2_with fail
  go_ret
  exact ⟨ret_bool HI.out, b1⟩

set_option maxHeartbeats 1000000 in
theorem xIdx3 (l : List Rep) (ao : Option Addr) (cap : Nat) (w : World) (hd : ∀ k (_ : k < l.length), ∃ g off, ao = some ⟨g, off, none⟩ ∧ ∀ w', Below w.heap.size w w' → w'.cell? ⟨g, off + k * 4, none⟩ = some (.int .i64 l[k].id) ∧ w'.cell? ⟨g, off + k * 4 + 1, none⟩ = some (.bool l[k].read) ∧ w'.cell? ⟨g, off + k * 4 + 2, none⟩ = some (.bool l[k].write) ∧ w'.cell? ⟨g, off + k * 4 + 3, none⟩ = some (.int .i64 l[k].accept)) (hl : l.length ≤ 1000000) :
    Calls Tryz.prog 124 #[.slice ao l.length cap, .func (.func 95) #[] #[]] w fun e w' => ∃ i : Int, e = .returned (.int .i64 i) ∧ decide (0 ≤ i) = !l.all (fun x => goodP x) ∧ Below w.heap.size w w' := by
  have HD := Lib.hid hd
  clear hd
  go_enter Tryz.func124, Tryz.ntmps124
  go_wp2_with fail
  go_loopw [8] (fun iv wr => ∃ k : Nat, iv = .int .i64 k ∧ k ≤ l.length ∧ Hid ((l.take k).all (fun x => goodP x) = true) ∧ Below w.heap.size w wr) (fun iv _ => l.length - (intOf iv).toNat)
  case atStart => exact ⟨0, rfl, Nat.zero_le _, Lib.hid rfl, Below.refl _ _⟩
  case round =>
    obtain ⟨k, rfl, hk, hA, hbw⟩ := hrel
    have e0 : (0 : Int) ≤ (k : Int) := by omega
    by_cases hlt : k < l.length
    · have e1 : (k : Int) < (l.length : Int) := by omega
      obtain ⟨g, off, rfl, d0⟩ := HD.out k hlt
      have d := d0 wr hbw
      have HT := Lib.hid (List.take_succ_eq_append_getElem hlt)
      have HM := Lib.hid (List.getElem_mem hlt)
      generalize l[k] = x at *
      have F := xGood3 x wr
      cases hg : (fun x => goodP x) x
      · simp only at hg
        rw [hg] at F
        have F := Lib.hid F
        have HN : Hid (l.all (fun x => goodP x) = false) := Lib.hid (by
          cases ha : l.all (fun x => goodP x) with
          | false => rfl
          | true => have := List.all_eq_true.1 ha x HM.out; rw [hg] at this; cases this)
        clear hg d0
        go_wp2_with fail
        refine F.out.mono ?_; rintro e w1 ⟨rfl, b1⟩
        have hb2 := hbw.up b1
        go_wp2_with fail
        go_ret
        exact ⟨k, rfl, by rw [HN.out]; simp, hb2⟩
      · simp only at hg
        rw [hg] at F
        have F := Lib.hid F
        have HA : Hid ((l.take (k + 1)).all (fun x => goodP x) = true) := Lib.hid (by rw [HT.out, List.all_append, hA.out, List.all_cons, hg]; rfl)
        clear hg d0 hA
        go_wp2_with fail
        refine F.out.mono ?_; rintro e w1 ⟨rfl, b1⟩
        have hb2 := hbw.up b1
        clear hbw d b1
        go_wp2_with fail
        go_roundw
        case rel => exact ⟨k + 1, by go_num, by omega, HA, hb2⟩
        case measure => simp [intOf]; omega
    · obtain rfl : k = l.length := by omega
      have e1 : ¬ ((l.length : Int) < (l.length : Int)) := by omega
      have hA2 := hA.out
      rw [List.take_length] at hA2
      have HA := Lib.hid hA2
      clear hA hA2
      go_wp2_with fail
      go_ret
      exact ⟨-1, rfl, by rw [HA.out]; rfl, hbw⟩
theorem xHas3 (l : List Rep) (ao : Option Addr) (cap : Nat) (w : World) (hd : ∀ k (_ : k < l.length), ∃ g off, ao = some ⟨g, off, none⟩ ∧ ∀ w', Below w.heap.size w w' → w'.cell? ⟨g, off + k * 4, none⟩ = some (.int .i64 l[k].id) ∧ w'.cell? ⟨g, off + k * 4 + 1, none⟩ = some (.bool l[k].read) ∧ w'.cell? ⟨g, off + k * 4 + 2, none⟩ = some (.bool l[k].write) ∧ w'.cell? ⟨g, off + k * 4 + 3, none⟩ = some (.int .i64 l[k].accept)) (hl : l.length ≤ 1000000) :
    Calls Tryz.prog 98 #[.slice ao l.length cap, .func (.func 95) #[] #[]] w fun e w' => e = .returned (.bool (!l.all (fun x => goodP x))) ∧ Below w.heap.size w w' := by
  have F := Lib.hid (xIdx3 l ao cap w hd hl)
  obtain ⟨b, hb⟩ : ∃ b, (!l.all (fun x => goodP x)) = b := ⟨_, rfl⟩
  rw [hb]
  have HB := Lib.hid hb
  clear hd hb
  go_enter Tryz.func98, Tryz.ntmps98
  go_wp2_with fail
  refine F.out.mono ?_; rintro e w1 ⟨i, rfl, hi, b1⟩
  rw [HB.out] at hi
  have HI := Lib.hid hi
  clear hi
  go_wp2_with fail
  go_ret
  exact ⟨ret_bool HI.out, b1⟩

set_option maxHeartbeats 4000000 in
set_option maxRecDepth 100000 in
theorem xGood (h : Hd) (r : Rd) (w : World) (ha : RAt w h r) (hs : Sml 1000000 [r]) : Calls Tryz.prog 60 #[.agg (rC h r).toArray] w fun e w' => e = .returned (.bool (goodR r)) ∧ Below w.heap.size w w' := by
  obtain ⟨w0, hw0⟩ : ∃ w0, w.alloc (.cells (rC h r).toArray 59) = w0 := ⟨_, rfl⟩
  have k0 : Blk w0 w.heap.size 59 (rC h r).toArray := by rw [← hw0]; exact Blk.new _ _ _
  have b0 : Below w.heap.size w w0 := by rw [← hw0]; exact (Below.refl _ _).alloc (Nat.le_refl _) _
  have a0 := ha.later b0
  have hsr := hs.2 r (by simp)
  have F1 : Hid (∀ w', Below w0.heap.size w0 w' → Calls Tryz.prog 96 #[.slice h.oa r.opens.length h.oc, .func (.func 92) #[] #[]] w' fun e w'' => e = .returned (.bool (!r.opens.all (fun x => inT x 0 63))) ∧ Below w'.heap.size w' w'') := Lib.hid fun w' hw => xHas1 r.opens h.oa h.oc w' (a0.later hw).os hsr.1
  have F2 : Hid (∀ w', Below w0.heap.size w0 w' → Calls Tryz.prog 97 #[.slice h.fa r.offers.length h.fc, .func (.func 94) #[] #[]] w' fun e w'' => e = .returned (.bool (!r.offers.all (fun x => goodO x))) ∧ Below w'.heap.size w' w'') := Lib.hid fun w' hw => xHas2 r.offers h.fa h.fc w' (a0.later hw).fs hsr.2.1
  have F3 : Hid (∀ w', Below w0.heap.size w0 w' → Calls Tryz.prog 98 #[.slice h.pa r.reports.length h.pc, .func (.func 95) #[] #[]] w' fun e w'' => e = .returned (.bool (!r.reports.all (fun x => goodP x))) ∧ Below w'.heap.size w' w'') := Lib.hid fun w' hw => xHas3 r.reports h.pa h.pc w' (a0.later hw).ps hsr.2.2
  have HW0 := Lib.hid hw0
  clear hw0 ha a0 hs hsr
  unfold rC at k0 HW0 ⊢
  have d0 := k0.at6
  have hr := Below.refl w0.heap.size w0
  have hg : goodR r = (decide (0 ≤ r.ticks) && decide (r.ticks ≤ 1000000000000) && (decide (0 ≤ r.drain) && decide (r.drain ≤ 1000000000001)) && r.opens.all (fun n => inT n 0 63) && r.offers.all goodO && r.reports.all goodP) := rfl
  rw [hg]
  clear hg
  have KK := Lib.hid k0
  clear k0
  by_cases c1 : 0 ≤ r.ticks
  · by_cases c2 : r.ticks ≤ 1000000000000
    · by_cases c3 : 0 ≤ r.drain
      · by_cases c4 : r.drain ≤ 1000000000001
        · simp only [decide_eq_true c1, decide_eq_true c2, decide_eq_true c3, decide_eq_true c4, Bool.true_and]
          cases g1 : r.opens.all (fun x => inT x 0 63)
          · rw [g1] at F1
            simp only [Bool.false_and]
            go_enter Tryz.func60, Tryz.ntmps60
            go_upto_region 1 with fail
            rw [HW0.out]
            go_wp2_with fail
            refine (F1.out _ (Below.refl _ _)).mono ?_; rintro e w1 ⟨rfl, b1⟩
            go_wp2_with fail
            go_ret
            exact ⟨rfl, b0.up b1⟩
          · rw [g1] at F1
            simp only [Bool.true_and]
            cases g2 : r.offers.all (fun x => goodO x)
            · rw [g2] at F2
              simp only [Bool.false_and]
              go_enter Tryz.func60, Tryz.ntmps60
              go_upto_region 1 with fail
              rw [HW0.out]
              go_wp2_with fail
              refine (F1.out _ (Below.refl _ _)).mono ?_; rintro e w1 ⟨rfl, b1⟩
              have d1 := (KK.out.later b1).at6
              have hr1 := Below.refl w1.heap.size w1
              clear d0 hr
              go_wp2_with fail
              refine (F2.out _ b1).mono ?_; rintro e w2 ⟨rfl, b2⟩
              go_wp2_with fail
              go_ret
              exact ⟨rfl, (b0.up b1).up b2⟩
            · rw [g2] at F2
              simp only [Bool.true_and]
              cases g3 : r.reports.all (fun x => goodP x)
              all_goals (
                rw [g3] at F3
                go_enter Tryz.func60, Tryz.ntmps60
                go_upto_region 1 with fail
                rw [HW0.out]
                go_wp2_with fail
                refine (F1.out _ (Below.refl _ _)).mono ?_; rintro e w1 ⟨rfl, b1⟩
                have d1 := (KK.out.later b1).at6
                have hr1 := Below.refl w1.heap.size w1
                clear d0 hr
                go_wp2_with fail
                refine (F2.out _ b1).mono ?_; rintro e w2 ⟨rfl, b2⟩
                have b12 := b1.up b2
                have d2 := (KK.out.later b12).at6
                have hr2 := Below.refl w2.heap.size w2
                clear d1 hr1
                go_wp2_with fail
                refine (F3.out _ b12).mono ?_; rintro e w3 ⟨rfl, b3⟩
                go_wp2_with fail
                go_ret
                exact ⟨rfl, (b0.up b12).up b3⟩)
        · simp only [decide_eq_true c1, decide_eq_true c2, decide_eq_true c3, decide_eq_false c4, Bool.true_and, Bool.and_false, Bool.false_and]
          go_enter Tryz.func60, Tryz.ntmps60
          go_upto_region 1 with fail
          rw [HW0.out]
          go_wp2_with fail
          go_ret
          exact ⟨rfl, b0⟩
      · simp only [decide_eq_true c1, decide_eq_true c2, decide_eq_false c3, Bool.true_and, Bool.and_false, Bool.false_and]
        go_enter Tryz.func60, Tryz.ntmps60
        go_upto_region 1 with fail
        rw [HW0.out]
        go_wp2_with fail
        go_ret
        exact ⟨rfl, b0⟩
    · simp only [decide_eq_true c1, decide_eq_false c2, Bool.true_and, Bool.and_false, Bool.false_and]
      go_enter Tryz.func60, Tryz.ntmps60
      go_upto_region 1 with fail
      rw [HW0.out]
      go_wp2_with fail
      go_ret
      exact ⟨rfl, b0⟩
  · simp only [decide_eq_false c1, Bool.true_and, Bool.and_false, Bool.false_and]
    go_enter Tryz.func60, Tryz.ntmps60
    go_upto_region 1 with fail
    rw [HW0.out]
    go_wp2_with fail
    go_ret
    exact ⟨rfl, b0⟩
theorem xGoodE (h : Hd) (r : Rd) (w : World) (ha : RAt w h r) (hs : Sml 1000000 [r]) : Calls Tryz.prog 31 #[.agg (rC h r).toArray] w fun e w' => e = .returned (.bool (goodR r)) ∧ Below w.heap.size w w' := by
  obtain ⟨w0, hw0⟩ : ∃ w0, w.alloc (.cells (rC h r).toArray 59) = w0 := ⟨_, rfl⟩
  have b0 : Below w.heap.size w w0 := by rw [← hw0]; exact (Below.refl _ _).alloc (Nat.le_refl _) _
  have k0 : Blk w0 w.heap.size 59 (rC h r).toArray := by rw [← hw0]; exact Blk.new _ _ _
  have F := Lib.hid (xGood h r w0 (ha.later b0) hs)
  have HW0 := Lib.hid hw0
  unfold rC at F HW0 k0 ⊢
  have d0 := k0.at6
  have hr := Below.refl w0.heap.size w0
  clear ha hs hw0
  go_enter Tryz.func31, Tryz.ntmps31
  go_upto_region 1 with fail
  rw [HW0.out]
  go_wp2_with fail
  refine F.out.mono ?_; rintro e w1 ⟨rfl, b1⟩
  go_wp2_with fail
  go_ret
  exact ⟨rfl, b0.up b1⟩
end Go.Proofs.YtmnkekepccdlcaaGreatDoor
