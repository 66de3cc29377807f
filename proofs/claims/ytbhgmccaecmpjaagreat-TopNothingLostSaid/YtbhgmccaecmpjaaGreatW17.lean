/-
  slices.Clone of strings, of arms, of ops.
  Conditions: none.
-/
import Derived.Test.YtbhgmccaecmpjaaGreatW16
import Derived.Lib.SliceRun
import Derived.Lib.Walk
import Derived.Test.YtbhgmccaecmpjaaGreatW01
import Derived.Test.YtbhgmccaecmpjaaGreatW02
namespace Go.Proofs.YtbhgmccaecmpjaaGreat
set_option linter.unusedVariables false
set_option linter.unusedSimpArgs false
open Go.RowKit

theorem info_Str : (Tryz.prog.info? 9).map (fun i => (i.zero, i.size, i.bytes)) = some (some (.string ⟨#[]⟩), 1, 16) := by kernel_rfl
set_option maxRecDepth 100000 in
set_option maxHeartbeats 4000000 in
theorem cloneStr0 (w : World) : Calls Tryz.prog 148 #[.slice none 0 0] w fun e w' => e = .returned (.slice none 0 0) ∧ w = w' := by
  have q22 : ∀ (w : World) (a : Option Addr) (n c n' c' : Nat), (binOp .eql 173 (.slice a n c) (.slice none n' c')).run Tryz.prog w = .ok (.bool a.isNone) w := fun w a n c n' c' => Lib.run_eql_slice_nil w _ _ a n c n' c' Tryz.underlying173
  go_enter Tryz.func148, Tryz.ntmps148
  go_wp2_with fail
  go_ret
  exact ⟨rfl, rfl⟩
set_option maxRecDepth 100000 in
set_option maxHeartbeats 4000000 in
theorem cloneStr (w : World) (b n c : Nat) (xs : List Value) (hl : xs.length = n * 1) (hc : ∀ (j : Nat) u, xs[j]? = some u → w.cell? ⟨b, j, none⟩ = some u) (h1 : ∀ u ∈ xs, u.oneCell' = true) (hn : n ≤ 1000) :
    Calls Tryz.prog 148 #[.slice (some ⟨b, 0, none⟩) n c] w fun e w' => ∃ ao cap, e = .returned (.slice ao n cap) ∧ ORow 9 1 w.heap.size w' (.slice ao n cap) n xs ∧ Below w.heap.size w w' := by
  obtain ⟨i0, hi, hz0, hz1, hz2⟩ := info_parts info_Str
  have HC := Lib.hid hc
  have HL := Lib.hid hl
  have H1 := Lib.hid h1
  clear hc hl h1
  have q22 : ∀ (w : World) (a : Option Addr) (n c n' c' : Nat), (binOp .eql 173 (.slice a n c) (.slice none n' c')).run Tryz.prog w = .ok (.bool a.isNone) w := fun w a n c n' c' => Lib.run_eql_slice_nil w _ _ a n c n' c' Tryz.underlying173
  go_enter Tryz.func148, Tryz.ntmps148
  go_wp2_with (at_builtin; refine wpList_append_own _ rfl _ _ 173 rfl w.heap.size 9 i0 (.string ⟨#[]⟩) 1 16 Tryz.underlying173 hi hz0 hz1 hz2 rfl (by decide) _ _ _ rfl (World.ownsRow_made w #[] 0 (Nat.le_refl _) (Nat.zero_le _) rfl) ⟨b, 0, none⟩ n c xs rfl HL.out ?qc2 H1.out ?qc4 ?qc5 ?qc6 ?qc7)
  case qc2 =>
    intro j u hj
    rw [Addr.add_lit, Nat.zero_add]
    have h2 := HC.out j u hj
    exact (Below.alloc (Below.refl w.heap.size w) (Nat.le_refl _) _).cell (p := ⟨b, j, none⟩) (block_lt h2) |>.trans h2
  case qc4 => unfold maxLen; omega
  case qc5 => omega
  case qc6 => simp
  case qc7 =>
  intro v' w1 hown hgrow hnil
  have hown' : ORow 9 1 w.heap.size w1 v' n xs := by simpa using hown
  obtain ⟨ao, cap, rfl, _⟩ := orow_form hown'
  have hb : Below w.heap.size w w1 := ((Below.refl _ w).alloc (Nat.le_refl _) _).grown hgrow (by simp) (by intro k hk; simp [Value.ownBlock] at hk; omega)
  clear hown hgrow hnil
  go_wp2_with fail
  go_ret
  exact ⟨ao, cap, rfl, hown', hb⟩
theorem info_Arm : (Tryz.prog.info? 65).map (fun i => (i.zero, i.size, i.bytes)) = some (some (.agg #[.string ⟨#[]⟩, .int .i64 0]), 2, 24) := by kernel_rfl
set_option maxRecDepth 100000 in
set_option maxHeartbeats 4000000 in
theorem cloneArm0 (w : World) : Calls Tryz.prog 43 #[.slice none 0 0] w fun e w' => e = .returned (.slice none 0 0) ∧ w = w' := by
  have q22 : ∀ (w : World) (a : Option Addr) (n c n' c' : Nat), (binOp .eql 27 (.slice a n c) (.slice none n' c')).run Tryz.prog w = .ok (.bool a.isNone) w := fun w a n c n' c' => Lib.run_eql_slice_nil w _ _ a n c n' c' Tryz.underlying27
  go_enter Tryz.func43, Tryz.ntmps43
  go_wp2_with fail
  go_ret
  exact ⟨rfl, rfl⟩
set_option maxRecDepth 100000 in
set_option maxHeartbeats 4000000 in
theorem cloneArm (w : World) (b n c : Nat) (xs : List Value) (hl : xs.length = n * 2) (hc : ∀ (j : Nat) u, xs[j]? = some u → w.cell? ⟨b, j, none⟩ = some u) (h1 : ∀ u ∈ xs, u.oneCell' = true) (hn : n ≤ 1000) :
    Calls Tryz.prog 43 #[.slice (some ⟨b, 0, none⟩) n c] w fun e w' => ∃ ao cap, e = .returned (.slice ao n cap) ∧ ORow 65 2 w.heap.size w' (.slice ao n cap) n xs ∧ Below w.heap.size w w' := by
  obtain ⟨i0, hi, hz0, hz1, hz2⟩ := info_parts info_Arm
  have HC := Lib.hid hc
  have HL := Lib.hid hl
  have H1 := Lib.hid h1
  clear hc hl h1
  have q22 : ∀ (w : World) (a : Option Addr) (n c n' c' : Nat), (binOp .eql 27 (.slice a n c) (.slice none n' c')).run Tryz.prog w = .ok (.bool a.isNone) w := fun w a n c n' c' => Lib.run_eql_slice_nil w _ _ a n c n' c' Tryz.underlying27
  go_enter Tryz.func43, Tryz.ntmps43
  go_wp2_with (at_builtin; refine wpList_append_own _ rfl _ _ 27 rfl w.heap.size 65 i0 (.agg #[.string ⟨#[]⟩, .int .i64 0]) 2 24 Tryz.underlying27 hi hz0 hz1 hz2 rfl (by decide) _ _ _ rfl (World.ownsRow_made w #[] 0 (Nat.le_refl _) (Nat.zero_le _) rfl) ⟨b, 0, none⟩ n c xs rfl HL.out ?qc2 H1.out ?qc4 ?qc5 ?qc6 ?qc7)
  case qc2 =>
    intro j u hj
    rw [Addr.add_lit, Nat.zero_add]
    have h2 := HC.out j u hj
    exact (Below.alloc (Below.refl w.heap.size w) (Nat.le_refl _) _).cell (p := ⟨b, j, none⟩) (block_lt h2) |>.trans h2
  case qc4 => unfold maxLen; omega
  case qc5 => omega
  case qc6 => simp
  case qc7 =>
  intro v' w1 hown hgrow hnil
  have hown' : ORow 65 2 w.heap.size w1 v' n xs := by simpa using hown
  obtain ⟨ao, cap, rfl, _⟩ := orow_form hown'
  have hb : Below w.heap.size w w1 := ((Below.refl _ w).alloc (Nat.le_refl _) _).grown hgrow (by simp) (by intro k hk; simp [Value.ownBlock] at hk; omega)
  clear hown hgrow hnil
  go_wp2_with fail
  go_ret
  exact ⟨ao, cap, rfl, hown', hb⟩
theorem info_Op : (Tryz.prog.info? 29).map (fun i => (i.zero, i.size, i.bytes)) = some (some (.agg #[.int .i64 0, .string ⟨#[]⟩, .int .i64 0, .int .i64 0, .slice none 0 0, .int .i64 0, .int .i64 0]), 7, 80) := by kernel_rfl
set_option maxRecDepth 100000 in
set_option maxHeartbeats 4000000 in
theorem cloneOp (w : World) (b n c : Nat) (xs : List Value) (hl : xs.length = n * 7) (hc : ∀ (j : Nat) u, xs[j]? = some u → w.cell? ⟨b, j, none⟩ = some u) (h1 : ∀ u ∈ xs, u.oneCell' = true) (hn : n ≤ 1000) :
    Calls Tryz.prog 42 #[.slice (some ⟨b, 0, none⟩) n c] w fun e w' => ∃ ao cap, e = .returned (.slice ao n cap) ∧ ORow 29 7 w.heap.size w' (.slice ao n cap) n xs ∧ Below w.heap.size w w' := by
  obtain ⟨i0, hi, hz0, hz1, hz2⟩ := info_parts info_Op
  have HC := Lib.hid hc
  have HL := Lib.hid hl
  have H1 := Lib.hid h1
  clear hc hl h1
  have q22 : ∀ (w : World) (a : Option Addr) (n c n' c' : Nat), (binOp .eql 30 (.slice a n c) (.slice none n' c')).run Tryz.prog w = .ok (.bool a.isNone) w := fun w a n c n' c' => Lib.run_eql_slice_nil w _ _ a n c n' c' Tryz.underlying30
  go_enter Tryz.func42, Tryz.ntmps42
  go_wp2_with (at_builtin; refine wpList_append_own _ rfl _ _ 30 rfl w.heap.size 29 i0 (.agg #[.int .i64 0, .string ⟨#[]⟩, .int .i64 0, .int .i64 0, .slice none 0 0, .int .i64 0, .int .i64 0]) 7 80 Tryz.underlying30 hi hz0 hz1 hz2 rfl (by decide) _ _ _ rfl (World.ownsRow_made w #[] 0 (Nat.le_refl _) (Nat.zero_le _) rfl) ⟨b, 0, none⟩ n c xs rfl HL.out ?qc2 H1.out ?qc4 ?qc5 ?qc6 ?qc7)
  case qc2 =>
    intro j u hj
    rw [Addr.add_lit, Nat.zero_add]
    have h2 := HC.out j u hj
    exact (Below.alloc (Below.refl w.heap.size w) (Nat.le_refl _) _).cell (p := ⟨b, j, none⟩) (block_lt h2) |>.trans h2
  case qc4 => unfold maxLen; omega
  case qc5 => omega
  case qc6 => simp
  case qc7 =>
  intro v' w1 hown hgrow hnil
  have hown' : ORow 29 7 w.heap.size w1 v' n xs := by simpa using hown
  obtain ⟨ao, cap, rfl, _⟩ := orow_form hown'
  have hb : Below w.heap.size w w1 := ((Below.refl _ w).alloc (Nat.le_refl _) _).grown hgrow (by simp) (by intro k hk; simp [Value.ownBlock] at hk; omega)
  clear hown hgrow hnil
  go_wp2_with fail
  go_ret
  exact ⟨ao, cap, rfl, hown', hb⟩
end Go.Proofs.YtbhgmccaecmpjaaGreat

namespace Go.Proofs.YtbhgmccaecmpjaaGreat
set_option linter.unusedVariables false
set_option linter.unusedSimpArgs false
open Go.RowKit

set_option maxRecDepth 100000 in
set_option maxHeartbeats 4000000 in
theorem hoBegin0 {w : World} {x : Nat} {bv : Value} {win seen : Nat} {ap : Value} (h : HolR w x bv win [] seen ap) : Calls Tryz.prog 120 #[.pointer (some ⟨x, 0, none⟩), .slice none 0 0] w fun e w' => ∃ b : AB, e = .returned (.int .i64 0) ∧ HolR w' x bv win [] 0 (.pointer (some ⟨b.x, 0, none⟩)) ∧ ArmS w' b .no ∧ (∀ i, b.in_ i → w.heap.size ≤ i) ∧ Foot (fun i => i = x) w w' := by
  have FA := Lib.hid (arNew0 w)
  have HH := Lib.hid h
  clear h
  go_enter Tryz.func120, Tryz.ntmps120
  go_wp2_with fail
  refine FA.out.mono ?_; rintro e w1 ⟨b, rfl, a1, n1, b1⟩
  have H1 := HH.out.later b1
  have FC := Lib.hid (cloneStr0 w1)
  obtain ⟨⟨⟨pv, hb⟩, hf, hw⟩, hrow, hown⟩ := H1
  have d := hb.at5
  have hr := Below.refl w1.heap.size w1
  go_wp2_with fail
  refine FC.out.mono ?_; rintro e w2 ⟨rfl, rfl⟩
  go_wp2_with fail
  go_ret
  have hx := HH.out.v.lt
  have K := ((hb.set_ 3 (.slice none 0 0)).set_ 4 (.pointer (some ⟨b.x, 0, none⟩))).set_ 2 (.int .i64 0)
  have ff : Foot (fun i => i = x) w1 (((w1.setCell ⟨x, 3, none⟩ (.slice none 0 0)).setCell ⟨x, 4, none⟩ (.pointer (some ⟨b.x, 0, none⟩))).setCell ⟨x, 2, none⟩ (.int .i64 0)) := foot_set (fun i => i = x) (foot_set (fun i => i = x) (foot_set (fun i => i = x) (Foot.refl _ w1) x 3 rfl _) x 4 rfl _) x 2 rfl _
  exact ⟨b, rfl, ⟨⟨⟨.slice none 0 0, by simpa using K⟩, hf, hw⟩, hrow.foot ff (fun g hg e => hown (e ▸ hg)), hown⟩, a1.foot ff (fun i hi => by have := n1 i hi; omega), n1, (Foot.later b1).trans ff⟩
set_option maxRecDepth 100000 in
set_option maxHeartbeats 4000000 in
theorem hoBegin1 {w : World} {x : Nat} {bv : Value} {win seen : Nat} {ap : Value} (h : HolR w x bv win [] seen ap) (s : ByteArray) (hs : PlainS s) (h0 : 0 < s.size) (pg cap : Nat) (hp : w.cell? ⟨pg, 0, none⟩ = some (.string s)) : Calls Tryz.prog 120 #[.pointer (some ⟨x, 0, none⟩), .slice (some ⟨pg, 0, none⟩) 1 cap] w fun e w' => ∃ b : AB, e = .returned (.int .i64 0) ∧ HolR w' x bv win [] 0 (.pointer (some ⟨b.x, 0, none⟩)) ∧ ArmS w' b (.at (tabP s.data.toList) (startT (tabP s.data.toList))) ∧ (∀ i, b.in_ i → w.heap.size ≤ i) ∧ Foot (fun i => i = x) w w' := by
  have hpl := block_lt hp
  have FA := Lib.hid (arNew1 s hs h0 w pg cap (fun w' hb => (hb.cell (p := ⟨pg, 0, none⟩) hpl).trans hp))
  have HH := Lib.hid h
  have HP := Lib.hid hp
  have HL := Lib.hid hpl
  clear h hp hpl hs h0
  generalize tabP s.data.toList = t at *
  generalize startT t = q at *
  go_enter Tryz.func120, Tryz.ntmps120
  go_wp2_with fail
  refine FA.out.mono ?_; rintro e w1 ⟨b, rfl, a1, n1, b1⟩
  have H1 := HH.out.later b1
  have hp1 := (b1.cell (p := ⟨pg, 0, none⟩) HL.out).trans HP.out
  have FC := Lib.hid (cloneStr w1 pg 1 cap [.string s] rfl (fun j u hj => by cases j with | zero => simp at hj; rw [← hj]; exact hp1 | succ j => simp at hj) (fun u hu => by simp at hu; subst hu; rfl) (by omega))
  obtain ⟨⟨⟨pv, hb⟩, hf, hw⟩, hrow, hown⟩ := H1
  have d := hb.at5
  have hr := Below.refl w1.heap.size w1
  clear hp1
  go_wp2_with fail
  refine FC.out.mono ?_; rintro e w2 ⟨ao, cap2, rfl, o2, b2⟩
  have hb2 := hb.later b2
  clear d hr
  have d := hb2.at5
  have hr := Below.refl w2.heap.size w2
  go_wp2_with fail
  go_ret
  have hx := HH.out.v.lt
  have s12 := b2.size
  have s01 := b1.size
  have K := ((hb2.set_ 3 (.slice ao 1 cap2)).set_ 4 (.pointer (some ⟨b.x, 0, none⟩))).set_ 2 (.int .i64 0)
  have ff : Foot (fun i => i = x) w2 (((w2.setCell ⟨x, 3, none⟩ (.slice ao 1 cap2)).setCell ⟨x, 4, none⟩ (.pointer (some ⟨b.x, 0, none⟩))).setCell ⟨x, 2, none⟩ (.int .i64 0)) := foot_set (fun i => i = x) (foot_set (fun i => i = x) (foot_set (fun i => i = x) (Foot.refl _ w2) x 3 rfl _) x 4 rfl _) x 2 rfl _
  exact ⟨b, rfl, ⟨⟨⟨.slice ao 1 cap2, by simpa using K⟩, hf, hw⟩, (hrow.later b2).foot ff (fun g hg e => hown (e ▸ hg)), hown⟩, (a1.later b2).foot ff (fun i hi => by have := n1 i hi; omega), n1, ((Foot.later b1).up b2).trans ff⟩
end Go.Proofs.YtbhgmccaecmpjaaGreat

namespace Go.Proofs.YtbhgmccaecmpjaaGreat
set_option linter.unusedVariables false
set_option linter.unusedSimpArgs false
open Go.RowKit

def overN (l c n : Int) : Int := if ownT l ≤ ownT c then (if dueB l n = true then 3 else 0) else (if dueB c n = true then 5 else 0)
theorem ownT_own (t : Int) : ownT (ownT t) = ownT t := by unfold ownT; omega
theorem dueB_own (a n : Int) : dueB (ownT a) n = dueB a n := by
  unfold dueB
  rw [ownT_own]
  have e : ownT a = nev ↔ a = nev := by unfold ownT nev; omega
  simp [e]

set_option maxHeartbeats 400000 in
theorem dOver (x l c n : Int) (w : World) : Calls Tryz.prog 131 #[.agg #[.int .i64 x, .int .i64 l, .int .i64 c], .int .i64 n] w
    fun e w' => e = .returned (.tuple #[.int .i64 (overN l c n), .bool (decide (0 < overN l c n))]) ∧ Below w.heap.size w w' := by
  have D1 := Lib.hid (dueB_own l n)
  have D2 := Lib.hid (dueB_own c n)
  by_cases h : ownT l ≤ ownT c
  · cases hd : dueB (ownT l) n
    · have e : overN l c n = 0 := by unfold overN; rw [if_pos h, if_neg (by rw [← D1.out, hd]; simp)]
      rw [e]; clear e
      go_enter Tryz.func131, Tryz.ntmps131
      go_wp2_with fail
      go_quiet ((go_at_call 74; exact quiet_left (tOwn _ _)))
      go_wp2_with (go_at_call 57; refine (tDue _ _ _).mono ?_; rintro e w' ⟨rfl, rfl⟩)
      go_ret2
      exact ⟨rfl, below_drewN ((Below.refl _ _).alloc (Nat.le_refl _) _) _⟩
    · have e : overN l c n = 3 := by unfold overN; rw [if_pos h, if_pos (by rw [← D1.out, hd])]
      rw [e]; clear e
      go_enter Tryz.func131, Tryz.ntmps131
      go_wp2_with fail
      go_quiet ((go_at_call 74; exact quiet_left (tOwn _ _)))
      go_wp2_with (go_at_call 57; refine (tDue _ _ _).mono ?_; rintro e w' ⟨rfl, rfl⟩)
      go_ret2
      exact ⟨rfl, below_drewN ((Below.refl _ _).alloc (Nat.le_refl _) _) _⟩
  · cases hd : dueB (ownT c) n
    · have e : overN l c n = 0 := by unfold overN; rw [if_neg h, if_neg (by rw [← D2.out, hd]; simp)]
      rw [e]; clear e
      go_enter Tryz.func131, Tryz.ntmps131
      go_wp2_with fail
      go_quiet ((go_at_call 74; exact quiet_left (tOwn _ _)))
      go_wp2_with (go_at_call 57; refine (tDue _ _ _).mono ?_; rintro e w' ⟨rfl, rfl⟩)
      go_ret2
      exact ⟨rfl, below_drewN ((Below.refl _ _).alloc (Nat.le_refl _) _) _⟩
    · have e : overN l c n = 5 := by unfold overN; rw [if_neg h, if_pos (by rw [← D2.out, hd])]
      rw [e]; clear e
      go_enter Tryz.func131, Tryz.ntmps131
      go_wp2_with fail
      go_quiet ((go_at_call 74; exact quiet_left (tOwn _ _)))
      go_wp2_with (go_at_call 57; refine (tDue _ _ _).mono ?_; rintro e w' ⟨rfl, rfl⟩)
      go_ret2
      exact ⟨rfl, below_drewN ((Below.refl _ _).alloc (Nat.le_refl _) _) _⟩

theorem dWoken (x l c n : Int) (w : World) : Calls Tryz.prog 133 #[.agg #[.int .i64 x, .int .i64 l, .int .i64 c], .int .i64 n] w
    fun e w' => e = .returned (.bool (dueB x n)) ∧ Below w.heap.size w w' := by
  go_enter Tryz.func133, Tryz.ntmps133
  go_wp2_with (go_at_call 57; refine (tDue _ _ _).mono ?_; rintro e w' ⟨rfl, rfl⟩)
  go_ret
  exact ⟨rfl, (Below.refl _ _).alloc (Nat.le_refl _) _⟩

theorem dFirst (x l c : Int) (w : World) : Calls Tryz.prog 112 #[.agg #[.int .i64 x, .int .i64 l, .int .i64 c]] w
    fun e w' => e = .returned (.int .i64 (leastT [x, l, c])) ∧ Below w.heap.size w w' := by
  go_enter Tryz.func112, Tryz.ntmps112
  go_wp2_with fail
  refine (tLeast _ _ _ [x, l, c] _ (by simp) ?_).mono ?_
  · intro k hk
    match k, hk with
    | 0, _ => simp [go_sem]
    | 1, _ => simp [go_sem]
    | 2, _ => simp [go_sem]
  rintro e w' ⟨rfl, rfl⟩
  go_wp2
  go_ret
  exact ⟨rfl, ((Below.refl _ _).alloc (Nat.le_refl _) _).alloc (by simp) _⟩

def behT (a n : Int) : Int := if n = nev then nev else addT a n
theorem dBehind (a n : Int) (w : World) (ha : i64 a) (hn : i64 n) : Calls Tryz.prog 117 #[.int .i64 a, .int .i64 n] w fun e w' => e = .returned (.int .i64 (behT a n)) ∧ w = w' := by
  by_cases h : n = 9223372036854775807
  · subst h
    have e : behT a 9223372036854775807 = 9223372036854775807 := by unfold behT nev; simp
    rw [e]
    go_enter Tryz.func117, Tryz.ntmps117
    go_wp2
    go_ret
    exact ⟨rfl, rfl⟩
  · have e : behT a n = addT a n := by unfold behT nev; simp [h]
    rw [e]
    clear e
    have hb : (n == 9223372036854775807) = false := by simpa using h
    clear h
    go_enter Tryz.func117, Tryz.ntmps117
    go_wp2_with (go_at_call 25; refine (tAdd _ _ _ ha hn).mono ?_; rintro e w' ⟨rfl, rfl⟩)
    go_ret
    exact ⟨rfl, rfl⟩

theorem dBegin (a n : Int) (w : World) (ha : i64 a) (hn : i64 n) : Calls Tryz.prog 75 #[.int .i64 a, .int .i64 n] w
    fun e w' => e = .returned (.agg #[.int .i64 9223372036854775807, .int .i64 (behT a n), .int .i64 9223372036854775807]) ∧ Below w.heap.size w w' := by
  go_enter Tryz.func75, Tryz.ntmps75
  go_wp2_with (go_at_call 117; refine (dBehind _ _ _ ha hn).mono ?_; rintro e w' ⟨rfl, rfl⟩)
  exact bodyPost_ret (v := .agg #[.int .i64 9223372036854775807, .int .i64 (behT a n), .int .i64 9223372036854775807]) (by simp [results, Tryz.results75, go_sem]) rfl ⟨rfl, by (repeat' (first | exact Below.refl _ _ | assumption | apply Below.drew | apply below_drewN | refine Below.setCell ?_ (by first | assumption | (simp; done) | (simp <;> omega)) _ | refine Below.alloc ?_ (by first | exact Nat.le_refl _ | assumption | (simp; done) | (simp <;> omega)) _))⟩

theorem dWait (x l c a n : Int) (w : World) (ha : i64 a) (hn : i64 n) : Calls Tryz.prog 121 #[.agg #[.int .i64 x, .int .i64 l, .int .i64 c], .int .i64 a, .int .i64 n] w
    fun e w' => e = .returned (.agg #[.int .i64 (behT a n), .int .i64 l, .int .i64 c]) ∧ Below w.heap.size w w' := by
  go_enter Tryz.func121, Tryz.ntmps121
  go_wp2_with (go_at_call 117; refine (dBehind _ _ _ ha hn).mono ?_; rintro e w' ⟨rfl, rfl⟩)
  exact bodyPost_ret (v := .agg #[.int .i64 (behT a n), .int .i64 l, .int .i64 c]) (by simp [results, Tryz.results121, go_sem]) rfl ⟨rfl, by (repeat' (first | exact Below.refl _ _ | assumption | apply Below.drew | apply below_drewN | refine Below.setCell ?_ (by first | assumption | (simp; done) | (simp <;> omega)) _ | refine Below.alloc ?_ (by first | exact Nat.le_refl _ | assumption | (simp; done) | (simp <;> omega)) _))⟩

theorem dRest (x l c : Int) (w : World) : Calls Tryz.prog 118 #[.agg #[.int .i64 x, .int .i64 l, .int .i64 c]] w
    fun e w' => e = .returned (.agg #[.int .i64 9223372036854775807, .int .i64 l, .int .i64 c]) ∧ Below w.heap.size w w' := by
  go_enter Tryz.func118, Tryz.ntmps118
  go_wp2
  exact bodyPost_ret (v := .agg #[.int .i64 9223372036854775807, .int .i64 l, .int .i64 c]) (by simp [results, Tryz.results118, go_sem]) rfl ⟨rfl, by (repeat' (first | exact Below.refl _ _ | assumption | apply Below.drew | apply below_drewN | refine Below.setCell ?_ (by first | assumption | (simp; done) | (simp <;> omega)) _ | refine Below.alloc ?_ (by first | exact Nat.le_refl _ | assumption | (simp; done) | (simp <;> omega)) _))⟩

end Go.Proofs.YtbhgmccaecmpjaaGreat
