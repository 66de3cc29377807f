/-
  Contracts of package dial: what a step does.
  Conditions: the blocks are known; no deadline ends the script.
-/
import Derived.Test.YtbhgmccaecmpjaaGreatW25
namespace Go.Proofs.YtbhgmccaecmpjaaGreat
set_option linter.unusedVariables false
set_option linter.unusedSimpArgs false
open Go.RowKit

set_option maxRecDepth 100000 in
set_option maxHeartbeats 8000000 in
theorem doLoad {w : World} {lab : Nat → Nat} {b : DB} {c : ScT} {t : DT} {u : ByteArray} (h : DiaR w lab b c t) (h2 : t.at_ ≤ 2) (ho : overN t.li t.cu t.now = 0) (he : opVal c b t = .agg #[.int .i64 1, .string u, .int .i64 0, .int .i64 0, .slice none 0 0, .int .i64 0, .int .i64 0]) (hrest : 0 < t.tx.size - t.ld) (s : StT) : Calls Tryz.prog 135 #[.pointer (some ⟨b.x, 0, none⟩), .agg s.cells] w fun e w' => ∃ lab' b', e = .returned (.agg #[.int .i64 s.tick, .int .i64 s.at_, .int .i64 5, .int .i64 s.arm, .int .i64 (loadT c.o t.tx t.sd t.ld), .int .i64 s.st]) ∧ LabEq lab lab' w ∧ DiaR w' lab' b' c ({ t with ld := t.ld + loadT c.o t.tx t.sd t.ld }) ∧ b'.x = b.x ∧ Foot (fun i => isD (lab i)) w w' := by
  unfold StT.cells
  obtain ⟨q, hq⟩ : ∃ q, w.heap.size = q := ⟨_, rfl⟩
  obtain ⟨w1, hw1⟩ : ∃ w1, w1 = (w.alloc (.cells #[.int .i64 s.tick, .int .i64 s.at_, .int .i64 s.what, .int .i64 s.arm, .int .i64 s.n, .int .i64 s.st] 67)).alloc (.cells #[.int .i64 0, .int .i64 0, .int .i64 0, .int .i64 0, .int .i64 0, .int .i64 0] 67) := ⟨_, rfl⟩
  have b1 : Below w.heap.size w w1 := by rw [hw1]; exact ((Below.refl _ _).alloc (Nat.le_refl _) _).alloc (by simp) _
  have K1 : Blk w1 q 67 #[.int .i64 s.tick, .int .i64 s.at_, .int .i64 s.what, .int .i64 s.arm, .int .i64 s.n, .int .i64 s.st] := by rw [hw1, ← hq]; exact (Blk.new _ _ _).alloc _
  have K2 : Blk w1 (q + 1) 67 #[.int .i64 0, .int .i64 0, .int .i64 0, .int .i64 0, .int .i64 0, .int .i64 0] := by
    rw [hw1, ← hq]
    have := Blk.new (w.alloc (.cells #[.int .i64 s.tick, .int .i64 s.at_, .int .i64 s.what, .int .i64 s.arm, .int .i64 s.n, .int .i64 s.st] 67)) 67 #[.int .i64 0, .int .i64 0, .int .i64 0, .int .i64 0, .int .i64 0, .int .i64 0]
    simpa using this
  have e1 := labNew_eq lab w 0
  have H1 := (h.relab e1).later b1
  have HQ := Lib.hid hq
  have HW1 := Lib.hid hw1
  have E1 := Lib.hid e1
  have B1 := Lib.hid b1
  have HN := Lib.hid h.lab
  have HX := Lib.hid h.lt
  have HH := Lib.hid H1
  have K1 := Lib.hid K1
  have K2 := Lib.hid K2
  have HZ : Hid (∀ i, w.heap.size ≤ i → ¬ isD (labNew lab w 0 i)) := Lib.hid fun i hi => by rw [labNew_new hi]; exact isD_zero
  have FO : Hid (∀ w, Calls Tryz.prog 131 #[.agg #[.int .i64 t.un, .int .i64 t.li, .int .i64 t.cu], .int .i64 t.now] w fun e w' => e = .returned (.tuple #[.int .i64 0, .bool false]) ∧ Below w.heap.size w w') := Lib.hid fun w => by have := dOver t.un t.li t.cu t.now w; rw [ho] at this; exact this
  have FP : Hid (∀ w', Below w1.heap.size w1 w' → Calls Tryz.prog 98 #[.pointer (some ⟨b.x, 0, none⟩)] w' fun e' w'' => e' = .returned (.agg #[.int .i64 1, .string u, .int .i64 0, .int .i64 0, .slice none 0 0, .int .i64 0, .int .i64 0]) ∧ Below w'.heap.size w' w'') := Lib.hid fun w' hb => by
    have := diOpB (b := b) (c := c) (t := t) (H1.later hb).blk rfl rfl (H1.later hb).scr h2
    rwa [he] at this
  have HRS := Lib.hid hrest
  clear hrest
  have d : ∀ w', Below w1.heap.size w1 w' → w'.cell? ⟨b.x, 13, none⟩ = some (.int .i64 t.un) ∧ w'.cell? ⟨b.x, 14, none⟩ = some (.int .i64 t.li) ∧ w'.cell? ⟨b.x, 15, none⟩ = some (.int .i64 t.cu) ∧ w'.cell? ⟨b.x, 20, none⟩ = some (.int .i64 t.now) := fun w' hw => by
    have k := Blk.later H1.blk hw
    exact ⟨k.cell 13, k.cell 14, k.cell 15, k.cell 20⟩
  have hr := Below.refl w1.heap.size w1
  clear h hw1 hq e1 b1 H1 he ho
  go_enter Tryz.func135, Tryz.ntmps135
  go_upto_region 1 with fail
  rw [← HW1.out, HQ.out]
  refine wp_region_later w1.heap.size (by kernel_rfl) (by kernel_rfl) ?_
  have hu : ∀ u : Later w1.heap.size w1, Below w1.heap.size w1 u.world := Later.below
  repeat (go_big_quiet_step ((first | (go_at_call 131; exact later_below (Nat.le_refl _) (FO.out _)))))
  refine wpQuiet_nil ?_
  intro w2 b2
  clear d hr hu
  have FP2 := Lib.hid (FP.out w2 b2)
  go_wp2_with fail
  refine FP2.out.mono ?_; rintro e w3 ⟨rfl, b3⟩
  obtain ⟨q3, hq3⟩ : ∃ q3, w3.heap.size = q3 := ⟨_, rfl⟩
  obtain ⟨w4, hw4⟩ : ∃ w4, w4 = w3.alloc (.cells #[.int .i64 1, .string u, .int .i64 0, .int .i64 0, .slice none 0 0, .int .i64 0, .int .i64 0] 29) := ⟨_, rfl⟩
  have b4 : Below w3.heap.size w3 w4 := by rw [hw4]; exact Below.alloc (Below.refl _ _) (Nat.le_refl _) _
  have KQ : Blk w4 q3 29 #[.int .i64 1, .string u, .int .i64 0, .int .i64 0, .slice none 0 0, .int .i64 0, .int .i64 0] := by rw [hw4, ← hq3]; exact Blk.new _ _ _
  have HW4 := Lib.hid hw4
  have HQ3 := Lib.hid hq3
  have b14 := (b2.up b3).up b4
  have H4 := Lib.hid (HH.out.later b14)
  have KA := K1.out.later b14
  have KB := K2.out.later b14
  have B4 := Lib.hid (B1.out.up b14)
  clear hw4 hq3 FP FP2 FO b2 b3 b4 b14
  go_upto_region 9 with fail
  rw [← HW4.out, HQ3.out]
  have dQ := KQ.at7
  have dA := KA.at6
  have hr := Below.refl w4.heap.size w4
  have FJ := Lib.hid (seLoad H4.out u HRS.out s)
  unfold StT.cells at FJ
  go_wp2_with fail
  refine FJ.out.mono ?_; rintro e w5 ⟨lab5, b5, rfl, le5, h5, ex5, f5⟩
  have lqb := KB.lt
  have KB5 := KB.foot f5 (HZ.out _ (by have := HQ.out; omega))
  clear dA dQ hr
  have dB := KB5.at6
  have hr := Below.refl w5.heap.size w5
  go_wp2_with fail
  have ff := foot_set6 (F := fun i => i = q + 1) (Foot.refl _ w5) rfl (.int .i64 s.tick) (.int .i64 s.at_) (.int .i64 5) (.int .i64 s.arm) (.int .i64 (loadT c.o t.tx t.sd t.ld)) (.int .i64 s.st)
  have sz := B4.out.size
  (try simp only [Exit.inBlock, Exit.then])
  refine bodyPost_ret (v := .agg #[.int .i64 s.tick, .int .i64 s.at_, .int .i64 5, .int .i64 s.arm, .int .i64 (loadT c.o t.tx t.sd t.ld), .int .i64 s.st]) ?_ rfl ⟨lab5, b5, rfl, fun i hi => (le5 i (by omega)).trans (E1.out i hi), ?_, ex5, ?_⟩
  · rw [results_cell_one rfl]
    go_simp
  · refine h5.foot ff (fun i hi e => ?_)
    rw [e, le5 _ lqb] at hi
    exact HZ.out _ (by have := HQ.out; omega) hi
  · have := HQ.out
    refine ((Foot.later B4.out : Foot (fun i => isD (lab i)) w w4).then f5 (fun i hi e => ?_)).then ff (fun i hi e => by omega)
    rw [E1.out i hi] at e
    exact e

set_option maxRecDepth 100000 in
set_option maxHeartbeats 8000000 in
theorem doSent {w : World} {lab : Nat → Nat} {b : DB} {c : ScT} {t : DT} {u : ByteArray} (h : DiaR w lab b c t) (h2 : t.at_ ≤ 2) (ho : overN t.li t.cu t.now = 0) (he : opVal c b t = .agg #[.int .i64 1, .string u, .int .i64 0, .int .i64 0, .slice none 0 0, .int .i64 0, .int .i64 0]) (hrest : t.tx.size - t.ld = 0) (hcf : c.fit) (hlv : t.lv = true) (hwin : t.win = []) (hn : i64 t.now) (hat : t.at_ = 0) (s : StT) : Calls Tryz.prog 135 #[.pointer (some ⟨b.x, 0, none⟩), .agg s.cells] w fun e w' => ∃ lab' b', e = .returned (.agg #[.int .i64 s.tick, .int .i64 s.at_, .int .i64 6, .int .i64 s.arm, .int .i64 u.size, .int .i64 s.st]) ∧ LabEq lab lab' w ∧ DiaR w' lab' b' c (comeT c t 1) ∧ b'.x = b.x ∧ Foot (fun i => isD (lab i)) w w' := by
  unfold StT.cells
  obtain ⟨q, hq⟩ : ∃ q, w.heap.size = q := ⟨_, rfl⟩
  obtain ⟨w1, hw1⟩ : ∃ w1, w1 = (w.alloc (.cells #[.int .i64 s.tick, .int .i64 s.at_, .int .i64 s.what, .int .i64 s.arm, .int .i64 s.n, .int .i64 s.st] 67)).alloc (.cells #[.int .i64 0, .int .i64 0, .int .i64 0, .int .i64 0, .int .i64 0, .int .i64 0] 67) := ⟨_, rfl⟩
  have b1 : Below w.heap.size w w1 := by rw [hw1]; exact ((Below.refl _ _).alloc (Nat.le_refl _) _).alloc (by simp) _
  have K1 : Blk w1 q 67 #[.int .i64 s.tick, .int .i64 s.at_, .int .i64 s.what, .int .i64 s.arm, .int .i64 s.n, .int .i64 s.st] := by rw [hw1, ← hq]; exact (Blk.new _ _ _).alloc _
  have K2 : Blk w1 (q + 1) 67 #[.int .i64 0, .int .i64 0, .int .i64 0, .int .i64 0, .int .i64 0, .int .i64 0] := by
    rw [hw1, ← hq]
    have := Blk.new (w.alloc (.cells #[.int .i64 s.tick, .int .i64 s.at_, .int .i64 s.what, .int .i64 s.arm, .int .i64 s.n, .int .i64 s.st] 67)) 67 #[.int .i64 0, .int .i64 0, .int .i64 0, .int .i64 0, .int .i64 0, .int .i64 0]
    simpa using this
  have e1 := labNew_eq lab w 0
  have H1 := (h.relab e1).later b1
  have HQ := Lib.hid hq
  have HW1 := Lib.hid hw1
  have E1 := Lib.hid e1
  have B1 := Lib.hid b1
  have HN := Lib.hid h.lab
  have HX := Lib.hid h.lt
  have HH := Lib.hid H1
  have K1 := Lib.hid K1
  have K2 := Lib.hid K2
  have HZ : Hid (∀ i, w.heap.size ≤ i → ¬ isD (labNew lab w 0 i)) := Lib.hid fun i hi => by rw [labNew_new hi]; exact isD_zero
  have FO : Hid (∀ w, Calls Tryz.prog 131 #[.agg #[.int .i64 t.un, .int .i64 t.li, .int .i64 t.cu], .int .i64 t.now] w fun e w' => e = .returned (.tuple #[.int .i64 0, .bool false]) ∧ Below w.heap.size w w') := Lib.hid fun w => by have := dOver t.un t.li t.cu t.now w; rw [ho] at this; exact this
  have FP : Hid (∀ w', Below w1.heap.size w1 w' → Calls Tryz.prog 98 #[.pointer (some ⟨b.x, 0, none⟩)] w' fun e' w'' => e' = .returned (.agg #[.int .i64 1, .string u, .int .i64 0, .int .i64 0, .slice none 0 0, .int .i64 0, .int .i64 0]) ∧ Below w'.heap.size w' w'') := Lib.hid fun w' hb => by
    have := diOpB (b := b) (c := c) (t := t) (H1.later hb).blk rfl rfl (H1.later hb).scr h2
    rwa [he] at this
  have HRS := Lib.hid (And.intro hrest (And.intro hcf (And.intro hlv (And.intro hwin (And.intro hn hat)))))
  clear hrest hcf hlv hwin hn hat
  have d : ∀ w', Below w1.heap.size w1 w' → w'.cell? ⟨b.x, 13, none⟩ = some (.int .i64 t.un) ∧ w'.cell? ⟨b.x, 14, none⟩ = some (.int .i64 t.li) ∧ w'.cell? ⟨b.x, 15, none⟩ = some (.int .i64 t.cu) ∧ w'.cell? ⟨b.x, 20, none⟩ = some (.int .i64 t.now) := fun w' hw => by
    have k := Blk.later H1.blk hw
    exact ⟨k.cell 13, k.cell 14, k.cell 15, k.cell 20⟩
  have hr := Below.refl w1.heap.size w1
  clear h hw1 hq e1 b1 H1 he ho
  go_enter Tryz.func135, Tryz.ntmps135
  go_upto_region 1 with fail
  rw [← HW1.out, HQ.out]
  refine wp_region_later w1.heap.size (by kernel_rfl) (by kernel_rfl) ?_
  have hu : ∀ u : Later w1.heap.size w1, Below w1.heap.size w1 u.world := Later.below
  repeat (go_big_quiet_step ((first | (go_at_call 131; exact later_below (Nat.le_refl _) (FO.out _)))))
  refine wpQuiet_nil ?_
  intro w2 b2
  clear d hr hu
  have FP2 := Lib.hid (FP.out w2 b2)
  go_wp2_with fail
  refine FP2.out.mono ?_; rintro e w3 ⟨rfl, b3⟩
  obtain ⟨q3, hq3⟩ : ∃ q3, w3.heap.size = q3 := ⟨_, rfl⟩
  obtain ⟨w4, hw4⟩ : ∃ w4, w4 = w3.alloc (.cells #[.int .i64 1, .string u, .int .i64 0, .int .i64 0, .slice none 0 0, .int .i64 0, .int .i64 0] 29) := ⟨_, rfl⟩
  have b4 : Below w3.heap.size w3 w4 := by rw [hw4]; exact Below.alloc (Below.refl _ _) (Nat.le_refl _) _
  have KQ : Blk w4 q3 29 #[.int .i64 1, .string u, .int .i64 0, .int .i64 0, .slice none 0 0, .int .i64 0, .int .i64 0] := by rw [hw4, ← hq3]; exact Blk.new _ _ _
  have HW4 := Lib.hid hw4
  have HQ3 := Lib.hid hq3
  have b14 := (b2.up b3).up b4
  have H4 := Lib.hid (HH.out.later b14)
  have KA := K1.out.later b14
  have KB := K2.out.later b14
  have B4 := Lib.hid (B1.out.up b14)
  clear hw4 hq3 FP FP2 FO b2 b3 b4 b14
  go_upto_region 9 with fail
  rw [← HW4.out, HQ3.out]
  have dQ := KQ.at7
  have dA := KA.at6
  have hr := Below.refl w4.heap.size w4
  have FJ := Lib.hid (seSent H4.out u HRS.out.1 HRS.out.2.1 HRS.out.2.2.1 HRS.out.2.2.2.1 HRS.out.2.2.2.2.1 HRS.out.2.2.2.2.2 s)
  unfold StT.cells at FJ
  go_wp2_with fail
  refine FJ.out.mono ?_; rintro e w5 ⟨lab5, b5, rfl, le5, h5, ex5, f5⟩
  have lqb := KB.lt
  have KB5 := KB.foot f5 (HZ.out _ (by have := HQ.out; omega))
  clear dA dQ hr
  have dB := KB5.at6
  have hr := Below.refl w5.heap.size w5
  go_wp2_with fail
  have ff := foot_set6 (F := fun i => i = q + 1) (Foot.refl _ w5) rfl (.int .i64 s.tick) (.int .i64 s.at_) (.int .i64 6) (.int .i64 s.arm) (.int .i64 u.size) (.int .i64 s.st)
  have sz := B4.out.size
  (try simp only [Exit.inBlock, Exit.then])
  refine bodyPost_ret (v := .agg #[.int .i64 s.tick, .int .i64 s.at_, .int .i64 6, .int .i64 s.arm, .int .i64 u.size, .int .i64 s.st]) ?_ rfl ⟨lab5, b5, rfl, fun i hi => (le5 i (by omega)).trans (E1.out i hi), ?_, ex5, ?_⟩
  · rw [results_cell_one rfl]
    go_simp
  · refine h5.foot ff (fun i hi e => ?_)
    rw [e, le5 _ lqb] at hi
    exact HZ.out _ (by have := HQ.out; omega) hi
  · have := HQ.out
    refine ((Foot.later B4.out : Foot (fun i => isD (lab i)) w w4).then f5 (fun i hi e => ?_)).then ff (fun i hi e => by omega)
    rw [E1.out i hi] at e
    exact e

set_option maxRecDepth 100000 in
set_option maxHeartbeats 8000000 in
theorem doNone {w : World} {lab : Nat → Nat} {b : DB} {c : ScT} {t : DT} {p : Pat} {T : LkT} {nn : Int} {ao : Option Addr} {mm cc : Nat} (h : DiaR w lab b c t) (h2 : t.at_ ≤ 2) (ho : overN t.li t.cu t.now = 0) (he : opVal c b t = .agg #[.int .i64 2, .string ⟨#[]⟩, .int .i64 nn, .int .i64 0, .slice ao mm cc, .int .i64 (-1), .int .i64 (-1)]) (hp : t.pat = some p) (hlv : t.lv = true) (hT : lookT c.n t.win p t.inb 0 = T) (hh : T.isHit = false) (hf : T.isFull = false) (hw : dueB t.un t.now = false) (s : StT) : Calls Tryz.prog 135 #[.pointer (some ⟨b.x, 0, none⟩), .agg s.cells] w fun e w' => ∃ lab' b', e = .returned (.agg #[.int .i64 s.tick, .int .i64 s.at_, .int .i64 1, .int .i64 s.arm, .int .i64 T.read, .int .i64 s.st]) ∧ LabEq lab lab' w ∧ DiaR w' lab' b' c ({ t with inb := T.s, win := T.l, pat := some T.p, lv := true }) ∧ b'.x = b.x ∧ Foot (fun i => isD (lab i)) w w' := by
  unfold StT.cells
  obtain ⟨q, hq⟩ : ∃ q, w.heap.size = q := ⟨_, rfl⟩
  obtain ⟨w1, hw1⟩ : ∃ w1, w1 = (w.alloc (.cells #[.int .i64 s.tick, .int .i64 s.at_, .int .i64 s.what, .int .i64 s.arm, .int .i64 s.n, .int .i64 s.st] 67)).alloc (.cells #[.int .i64 0, .int .i64 0, .int .i64 0, .int .i64 0, .int .i64 0, .int .i64 0] 67) := ⟨_, rfl⟩
  have b1 : Below w.heap.size w w1 := by rw [hw1]; exact ((Below.refl _ _).alloc (Nat.le_refl _) _).alloc (by simp) _
  have K1 : Blk w1 q 67 #[.int .i64 s.tick, .int .i64 s.at_, .int .i64 s.what, .int .i64 s.arm, .int .i64 s.n, .int .i64 s.st] := by rw [hw1, ← hq]; exact (Blk.new _ _ _).alloc _
  have K2 : Blk w1 (q + 1) 67 #[.int .i64 0, .int .i64 0, .int .i64 0, .int .i64 0, .int .i64 0, .int .i64 0] := by
    rw [hw1, ← hq]
    have := Blk.new (w.alloc (.cells #[.int .i64 s.tick, .int .i64 s.at_, .int .i64 s.what, .int .i64 s.arm, .int .i64 s.n, .int .i64 s.st] 67)) 67 #[.int .i64 0, .int .i64 0, .int .i64 0, .int .i64 0, .int .i64 0, .int .i64 0]
    simpa using this
  have e1 := labNew_eq lab w 0
  have H1 := (h.relab e1).later b1
  have HQ := Lib.hid hq
  have HW1 := Lib.hid hw1
  have E1 := Lib.hid e1
  have B1 := Lib.hid b1
  have HN := Lib.hid h.lab
  have HX := Lib.hid h.lt
  have HH := Lib.hid H1
  have K1 := Lib.hid K1
  have K2 := Lib.hid K2
  have HZ : Hid (∀ i, w.heap.size ≤ i → ¬ isD (labNew lab w 0 i)) := Lib.hid fun i hi => by rw [labNew_new hi]; exact isD_zero
  have FO : Hid (∀ w, Calls Tryz.prog 131 #[.agg #[.int .i64 t.un, .int .i64 t.li, .int .i64 t.cu], .int .i64 t.now] w fun e w' => e = .returned (.tuple #[.int .i64 0, .bool false]) ∧ Below w.heap.size w w') := Lib.hid fun w => by have := dOver t.un t.li t.cu t.now w; rw [ho] at this; exact this
  have FP : Hid (∀ w', Below w1.heap.size w1 w' → Calls Tryz.prog 98 #[.pointer (some ⟨b.x, 0, none⟩)] w' fun e' w'' => e' = .returned (.agg #[.int .i64 2, .string ⟨#[]⟩, .int .i64 nn, .int .i64 0, .slice ao mm cc, .int .i64 (-1), .int .i64 (-1)]) ∧ Below w'.heap.size w' w'') := Lib.hid fun w' hb => by
    have := diOpB (b := b) (c := c) (t := t) (H1.later hb).blk rfl rfl (H1.later hb).scr h2
    rwa [he] at this
  have HRS := Lib.hid (And.intro hp (And.intro hlv (And.intro hT (And.intro hh (And.intro hf hw)))))
  clear hp hlv hT hh hf hw
  have d : ∀ w', Below w1.heap.size w1 w' → w'.cell? ⟨b.x, 13, none⟩ = some (.int .i64 t.un) ∧ w'.cell? ⟨b.x, 14, none⟩ = some (.int .i64 t.li) ∧ w'.cell? ⟨b.x, 15, none⟩ = some (.int .i64 t.cu) ∧ w'.cell? ⟨b.x, 20, none⟩ = some (.int .i64 t.now) := fun w' hw => by
    have k := Blk.later H1.blk hw
    exact ⟨k.cell 13, k.cell 14, k.cell 15, k.cell 20⟩
  have hr := Below.refl w1.heap.size w1
  clear h hw1 hq e1 b1 H1 he ho
  go_enter Tryz.func135, Tryz.ntmps135
  go_upto_region 1 with fail
  rw [← HW1.out, HQ.out]
  refine wp_region_later w1.heap.size (by kernel_rfl) (by kernel_rfl) ?_
  have hu : ∀ u : Later w1.heap.size w1, Below w1.heap.size w1 u.world := Later.below
  repeat (go_big_quiet_step ((first | (go_at_call 131; exact later_below (Nat.le_refl _) (FO.out _)))))
  refine wpQuiet_nil ?_
  intro w2 b2
  clear d hr hu
  have FP2 := Lib.hid (FP.out w2 b2)
  go_wp2_with fail
  refine FP2.out.mono ?_; rintro e w3 ⟨rfl, b3⟩
  obtain ⟨q3, hq3⟩ : ∃ q3, w3.heap.size = q3 := ⟨_, rfl⟩
  obtain ⟨w4, hw4⟩ : ∃ w4, w4 = w3.alloc (.cells #[.int .i64 2, .string ⟨#[]⟩, .int .i64 nn, .int .i64 0, .slice ao mm cc, .int .i64 (-1), .int .i64 (-1)] 29) := ⟨_, rfl⟩
  have b4 : Below w3.heap.size w3 w4 := by rw [hw4]; exact Below.alloc (Below.refl _ _) (Nat.le_refl _) _
  have KQ : Blk w4 q3 29 #[.int .i64 2, .string ⟨#[]⟩, .int .i64 nn, .int .i64 0, .slice ao mm cc, .int .i64 (-1), .int .i64 (-1)] := by rw [hw4, ← hq3]; exact Blk.new _ _ _
  have HW4 := Lib.hid hw4
  have HQ3 := Lib.hid hq3
  have b14 := (b2.up b3).up b4
  have H4 := Lib.hid (HH.out.later b14)
  have KA := K1.out.later b14
  have KB := K2.out.later b14
  have B4 := Lib.hid (B1.out.up b14)
  clear hw4 hq3 FP FP2 FO b2 b3 b4 b14
  go_upto_region 9 with fail
  rw [← HW4.out, HQ3.out]
  have dQ := KQ.at7
  have dA := KA.at6
  have hr := Below.refl w4.heap.size w4
  have FJ := Lib.hid (loNone H4.out HRS.out.1 HRS.out.2.1 HRS.out.2.2.1 HRS.out.2.2.2.1 HRS.out.2.2.2.2.1 HRS.out.2.2.2.2.2 s (nn := nn) (ao := ao) (mm := mm) (cc := cc))
  unfold StT.cells at FJ
  go_wp2_with fail
  refine FJ.out.mono ?_; rintro e w5 ⟨lab5, b5, rfl, le5, h5, ex5, f5⟩
  have lqb := KB.lt
  have KB5 := KB.foot f5 (HZ.out _ (by have := HQ.out; omega))
  clear dA dQ hr
  have dB := KB5.at6
  have hr := Below.refl w5.heap.size w5
  go_wp2_with fail
  have ff := foot_set6 (F := fun i => i = q + 1) (Foot.refl _ w5) rfl (.int .i64 s.tick) (.int .i64 s.at_) (.int .i64 1) (.int .i64 s.arm) (.int .i64 T.read) (.int .i64 s.st)
  have sz := B4.out.size
  (try simp only [Exit.inBlock, Exit.then])
  refine bodyPost_ret (v := .agg #[.int .i64 s.tick, .int .i64 s.at_, .int .i64 1, .int .i64 s.arm, .int .i64 T.read, .int .i64 s.st]) ?_ rfl ⟨lab5, b5, rfl, fun i hi => (le5 i (by omega)).trans (E1.out i hi), ?_, ex5, ?_⟩
  · rw [results_cell_one rfl]
    go_simp
  · refine h5.foot ff (fun i hi e => ?_)
    rw [e, le5 _ lqb] at hi
    exact HZ.out _ (by have := HQ.out; omega) hi
  · have := HQ.out
    refine ((Foot.later B4.out : Foot (fun i => isD (lab i)) w w4).then f5 (fun i hi e => ?_)).then ff (fun i hi e => by omega)
    rw [E1.out i hi] at e
    exact e

set_option maxRecDepth 100000 in
set_option maxHeartbeats 8000000 in
theorem doFull {w : World} {lab : Nat → Nat} {b : DB} {c : ScT} {t : DT} {p : Pat} {T : LkT} {nn : Int} {ao : Option Addr} {mm cc : Nat} (h : DiaR w lab b c t) (h2 : t.at_ ≤ 2) (ho : overN t.li t.cu t.now = 0) (he : opVal c b t = .agg #[.int .i64 2, .string ⟨#[]⟩, .int .i64 nn, .int .i64 0, .slice ao mm cc, .int .i64 (-1), .int .i64 (-1)]) (hp : t.pat = some p) (hlv : t.lv = true) (hT : lookT c.n t.win p t.inb 0 = T) (hh : T.isHit = false) (hf : T.isFull = true) (s : StT) : Calls Tryz.prog 135 #[.pointer (some ⟨b.x, 0, none⟩), .agg s.cells] w fun e w' => e = .returned (.agg #[.int .i64 s.tick, .int .i64 s.at_, .int .i64 13, .int .i64 s.arm, .int .i64 T.read, .int .i64 s.st]) ∧ DiE w' b.x 4 ∧ Foot (fun i => isD (lab i)) w w' := by
  unfold StT.cells
  obtain ⟨q, hq⟩ : ∃ q, w.heap.size = q := ⟨_, rfl⟩
  obtain ⟨w1, hw1⟩ : ∃ w1, w1 = (w.alloc (.cells #[.int .i64 s.tick, .int .i64 s.at_, .int .i64 s.what, .int .i64 s.arm, .int .i64 s.n, .int .i64 s.st] 67)).alloc (.cells #[.int .i64 0, .int .i64 0, .int .i64 0, .int .i64 0, .int .i64 0, .int .i64 0] 67) := ⟨_, rfl⟩
  have b1 : Below w.heap.size w w1 := by rw [hw1]; exact ((Below.refl _ _).alloc (Nat.le_refl _) _).alloc (by simp) _
  have K1 : Blk w1 q 67 #[.int .i64 s.tick, .int .i64 s.at_, .int .i64 s.what, .int .i64 s.arm, .int .i64 s.n, .int .i64 s.st] := by rw [hw1, ← hq]; exact (Blk.new _ _ _).alloc _
  have K2 : Blk w1 (q + 1) 67 #[.int .i64 0, .int .i64 0, .int .i64 0, .int .i64 0, .int .i64 0, .int .i64 0] := by
    rw [hw1, ← hq]
    have := Blk.new (w.alloc (.cells #[.int .i64 s.tick, .int .i64 s.at_, .int .i64 s.what, .int .i64 s.arm, .int .i64 s.n, .int .i64 s.st] 67)) 67 #[.int .i64 0, .int .i64 0, .int .i64 0, .int .i64 0, .int .i64 0, .int .i64 0]
    simpa using this
  have e1 := labNew_eq lab w 0
  have H1 := (h.relab e1).later b1
  have HQ := Lib.hid hq
  have HW1 := Lib.hid hw1
  have E1 := Lib.hid e1
  have B1 := Lib.hid b1
  have HN := Lib.hid h.lab
  have HX := Lib.hid h.lt
  have HH := Lib.hid H1
  have K1 := Lib.hid K1
  have K2 := Lib.hid K2
  have HZ : Hid (∀ i, w.heap.size ≤ i → ¬ isD (labNew lab w 0 i)) := Lib.hid fun i hi => by rw [labNew_new hi]; exact isD_zero
  have FO : Hid (∀ w, Calls Tryz.prog 131 #[.agg #[.int .i64 t.un, .int .i64 t.li, .int .i64 t.cu], .int .i64 t.now] w fun e w' => e = .returned (.tuple #[.int .i64 0, .bool false]) ∧ Below w.heap.size w w') := Lib.hid fun w => by have := dOver t.un t.li t.cu t.now w; rw [ho] at this; exact this
  have FP : Hid (∀ w', Below w1.heap.size w1 w' → Calls Tryz.prog 98 #[.pointer (some ⟨b.x, 0, none⟩)] w' fun e' w'' => e' = .returned (.agg #[.int .i64 2, .string ⟨#[]⟩, .int .i64 nn, .int .i64 0, .slice ao mm cc, .int .i64 (-1), .int .i64 (-1)]) ∧ Below w'.heap.size w' w'') := Lib.hid fun w' hb => by
    have := diOpB (b := b) (c := c) (t := t) (H1.later hb).blk rfl rfl (H1.later hb).scr h2
    rwa [he] at this
  have HRS := Lib.hid (And.intro hp (And.intro hlv (And.intro hT (And.intro hh hf))))
  clear hp hlv hT hh hf
  have d : ∀ w', Below w1.heap.size w1 w' → w'.cell? ⟨b.x, 13, none⟩ = some (.int .i64 t.un) ∧ w'.cell? ⟨b.x, 14, none⟩ = some (.int .i64 t.li) ∧ w'.cell? ⟨b.x, 15, none⟩ = some (.int .i64 t.cu) ∧ w'.cell? ⟨b.x, 20, none⟩ = some (.int .i64 t.now) := fun w' hw => by
    have k := Blk.later H1.blk hw
    exact ⟨k.cell 13, k.cell 14, k.cell 15, k.cell 20⟩
  have hr := Below.refl w1.heap.size w1
  clear h hw1 hq e1 b1 H1 he ho
  go_enter Tryz.func135, Tryz.ntmps135
  go_upto_region 1 with fail
  rw [← HW1.out, HQ.out]
  refine wp_region_later w1.heap.size (by kernel_rfl) (by kernel_rfl) ?_
  have hu : ∀ u : Later w1.heap.size w1, Below w1.heap.size w1 u.world := Later.below
  repeat (go_big_quiet_step ((first | (go_at_call 131; exact later_below (Nat.le_refl _) (FO.out _)))))
  refine wpQuiet_nil ?_
  intro w2 b2
  clear d hr hu
  have FP2 := Lib.hid (FP.out w2 b2)
  go_wp2_with fail
  refine FP2.out.mono ?_; rintro e w3 ⟨rfl, b3⟩
  obtain ⟨q3, hq3⟩ : ∃ q3, w3.heap.size = q3 := ⟨_, rfl⟩
  obtain ⟨w4, hw4⟩ : ∃ w4, w4 = w3.alloc (.cells #[.int .i64 2, .string ⟨#[]⟩, .int .i64 nn, .int .i64 0, .slice ao mm cc, .int .i64 (-1), .int .i64 (-1)] 29) := ⟨_, rfl⟩
  have b4 : Below w3.heap.size w3 w4 := by rw [hw4]; exact Below.alloc (Below.refl _ _) (Nat.le_refl _) _
  have KQ : Blk w4 q3 29 #[.int .i64 2, .string ⟨#[]⟩, .int .i64 nn, .int .i64 0, .slice ao mm cc, .int .i64 (-1), .int .i64 (-1)] := by rw [hw4, ← hq3]; exact Blk.new _ _ _
  have HW4 := Lib.hid hw4
  have HQ3 := Lib.hid hq3
  have b14 := (b2.up b3).up b4
  have H4 := Lib.hid (HH.out.later b14)
  have KA := K1.out.later b14
  have KB := K2.out.later b14
  have B4 := Lib.hid (B1.out.up b14)
  clear hw4 hq3 FP FP2 FO b2 b3 b4 b14
  go_upto_region 9 with fail
  rw [← HW4.out, HQ3.out]
  have dQ := KQ.at7
  have dA := KA.at6
  have hr := Below.refl w4.heap.size w4
  have FJ := Lib.hid (loFull H4.out HRS.out.1 HRS.out.2.1 HRS.out.2.2.1 HRS.out.2.2.2.1 HRS.out.2.2.2.2 s (nn := nn) (ao := ao) (mm := mm) (cc := cc))
  unfold StT.cells at FJ
  go_wp2_with fail
  refine FJ.out.mono ?_; rintro e w5 ⟨rfl, e5, f5⟩
  have lqb := KB.lt
  have KB5 := KB.foot f5 (HZ.out _ (by have := HQ.out; omega))
  clear dA dQ hr
  have dB := KB5.at6
  have hr := Below.refl w5.heap.size w5
  go_wp2_with fail
  have ff := foot_set6 (F := fun i => i = q + 1) (Foot.refl _ w5) rfl (.int .i64 s.tick) (.int .i64 s.at_) (.int .i64 13) (.int .i64 s.arm) (.int .i64 T.read) (.int .i64 s.st)
  have hxl := HX.out.1
  (try simp only [Exit.inBlock, Exit.then])
  refine bodyPost_ret (v := .agg #[.int .i64 s.tick, .int .i64 s.at_, .int .i64 13, .int .i64 s.arm, .int .i64 T.read, .int .i64 s.st]) ?_ rfl ⟨rfl, ?_, ?_⟩
  · rw [results_cell_one rfl]
    go_simp
  · obtain ⟨d5, h5, e5⟩ := e5
    exact ⟨d5, Blk.foot h5 ff (by have := HQ.out; omega), e5⟩
  · have := HQ.out
    refine ((Foot.later B4.out : Foot (fun i => isD (lab i)) w w4).then f5 (fun i hi e => ?_)).then ff (fun i hi e => by omega)
    rw [E1.out i hi] at e
    exact e

set_option maxRecDepth 100000 in
set_option maxHeartbeats 8000000 in
theorem doHit {w : World} {lab : Nat → Nat} {b : DB} {c : ScT} {t : DT} {p : Pat} {T : LkT} {nn : Int} {ag cc : Nat} (h : DiaR w lab b c t) (h2 : t.at_ ≤ 2) (ho : overN t.li t.cu t.now = 0) (he : opVal c b t = .agg #[.int .i64 2, .string ⟨#[]⟩, .int .i64 nn, .int .i64 0, .slice (some ⟨ag, 0, none⟩) 1 cc, .int .i64 (-1), .int .i64 (-1)]) (hp : t.pat = some p) (hlv : t.lv = true) (hT : lookT c.n t.win p t.inb 0 = T) (hh : T.isHit = true) (hj : t.ju < c.jm) (hag : ag < w.heap.size ∧ w.cell? ⟨ag, 1, none⟩ = some (.int .i64 2)) (hnd : ¬ isLk (lab ag)) (s : StT) : Calls Tryz.prog 135 #[.pointer (some ⟨b.x, 0, none⟩), .agg s.cells] w fun e w' => ∃ lab' b', e = .returned (.agg #[.int .i64 s.tick, .int .i64 s.at_, .int .i64 2, .int .i64 0, .int .i64 T.gone, .int .i64 s.st]) ∧ LabEq lab lab' w ∧ DiaR w' lab' b' c (comeT c { t with inb := T.s, win := T.l, pat := some T.p, lv := false, ju := t.ju + 1 } 2) ∧ b'.x = b.x ∧ Foot (fun i => isD (lab i)) w w' := by
  unfold StT.cells
  obtain ⟨q, hq⟩ : ∃ q, w.heap.size = q := ⟨_, rfl⟩
  obtain ⟨w1, hw1⟩ : ∃ w1, w1 = (w.alloc (.cells #[.int .i64 s.tick, .int .i64 s.at_, .int .i64 s.what, .int .i64 s.arm, .int .i64 s.n, .int .i64 s.st] 67)).alloc (.cells #[.int .i64 0, .int .i64 0, .int .i64 0, .int .i64 0, .int .i64 0, .int .i64 0] 67) := ⟨_, rfl⟩
  have b1 : Below w.heap.size w w1 := by rw [hw1]; exact ((Below.refl _ _).alloc (Nat.le_refl _) _).alloc (by simp) _
  have K1 : Blk w1 q 67 #[.int .i64 s.tick, .int .i64 s.at_, .int .i64 s.what, .int .i64 s.arm, .int .i64 s.n, .int .i64 s.st] := by rw [hw1, ← hq]; exact (Blk.new _ _ _).alloc _
  have K2 : Blk w1 (q + 1) 67 #[.int .i64 0, .int .i64 0, .int .i64 0, .int .i64 0, .int .i64 0, .int .i64 0] := by
    rw [hw1, ← hq]
    have := Blk.new (w.alloc (.cells #[.int .i64 s.tick, .int .i64 s.at_, .int .i64 s.what, .int .i64 s.arm, .int .i64 s.n, .int .i64 s.st] 67)) 67 #[.int .i64 0, .int .i64 0, .int .i64 0, .int .i64 0, .int .i64 0, .int .i64 0]
    simpa using this
  have e1 := labNew_eq lab w 0
  have H1 := (h.relab e1).later b1
  have HQ := Lib.hid hq
  have HW1 := Lib.hid hw1
  have E1 := Lib.hid e1
  have B1 := Lib.hid b1
  have HN := Lib.hid h.lab
  have HX := Lib.hid h.lt
  have HH := Lib.hid H1
  have K1 := Lib.hid K1
  have K2 := Lib.hid K2
  have HZ : Hid (∀ i, w.heap.size ≤ i → ¬ isD (labNew lab w 0 i)) := Lib.hid fun i hi => by rw [labNew_new hi]; exact isD_zero
  have FO : Hid (∀ w, Calls Tryz.prog 131 #[.agg #[.int .i64 t.un, .int .i64 t.li, .int .i64 t.cu], .int .i64 t.now] w fun e w' => e = .returned (.tuple #[.int .i64 0, .bool false]) ∧ Below w.heap.size w w') := Lib.hid fun w => by have := dOver t.un t.li t.cu t.now w; rw [ho] at this; exact this
  have FP : Hid (∀ w', Below w1.heap.size w1 w' → Calls Tryz.prog 98 #[.pointer (some ⟨b.x, 0, none⟩)] w' fun e' w'' => e' = .returned (.agg #[.int .i64 2, .string ⟨#[]⟩, .int .i64 nn, .int .i64 0, .slice (some ⟨ag, 0, none⟩) 1 cc, .int .i64 (-1), .int .i64 (-1)]) ∧ Below w'.heap.size w' w'') := Lib.hid fun w' hb => by
    have := diOpB (b := b) (c := c) (t := t) (H1.later hb).blk rfl rfl (H1.later hb).scr h2
    rwa [he] at this
  have HRS := Lib.hid (And.intro hp (And.intro hlv (And.intro hT (And.intro hh hj))))
  have HAG := Lib.hid (And.intro hag hnd)
  clear hp hlv hT hh hj hag hnd
  have d : ∀ w', Below w1.heap.size w1 w' → w'.cell? ⟨b.x, 13, none⟩ = some (.int .i64 t.un) ∧ w'.cell? ⟨b.x, 14, none⟩ = some (.int .i64 t.li) ∧ w'.cell? ⟨b.x, 15, none⟩ = some (.int .i64 t.cu) ∧ w'.cell? ⟨b.x, 20, none⟩ = some (.int .i64 t.now) := fun w' hw => by
    have k := Blk.later H1.blk hw
    exact ⟨k.cell 13, k.cell 14, k.cell 15, k.cell 20⟩
  have hr := Below.refl w1.heap.size w1
  clear h hw1 hq e1 b1 H1 he ho
  go_enter Tryz.func135, Tryz.ntmps135
  go_upto_region 1 with fail
  rw [← HW1.out, HQ.out]
  refine wp_region_later w1.heap.size (by kernel_rfl) (by kernel_rfl) ?_
  have hu : ∀ u : Later w1.heap.size w1, Below w1.heap.size w1 u.world := Later.below
  repeat (go_big_quiet_step ((first | (go_at_call 131; exact later_below (Nat.le_refl _) (FO.out _)))))
  refine wpQuiet_nil ?_
  intro w2 b2
  clear d hr hu
  have FP2 := Lib.hid (FP.out w2 b2)
  go_wp2_with fail
  refine FP2.out.mono ?_; rintro e w3 ⟨rfl, b3⟩
  obtain ⟨q3, hq3⟩ : ∃ q3, w3.heap.size = q3 := ⟨_, rfl⟩
  obtain ⟨w4, hw4⟩ : ∃ w4, w4 = w3.alloc (.cells #[.int .i64 2, .string ⟨#[]⟩, .int .i64 nn, .int .i64 0, .slice (some ⟨ag, 0, none⟩) 1 cc, .int .i64 (-1), .int .i64 (-1)] 29) := ⟨_, rfl⟩
  have b4 : Below w3.heap.size w3 w4 := by rw [hw4]; exact Below.alloc (Below.refl _ _) (Nat.le_refl _) _
  have KQ : Blk w4 q3 29 #[.int .i64 2, .string ⟨#[]⟩, .int .i64 nn, .int .i64 0, .slice (some ⟨ag, 0, none⟩) 1 cc, .int .i64 (-1), .int .i64 (-1)] := by rw [hw4, ← hq3]; exact Blk.new _ _ _
  have HW4 := Lib.hid hw4
  have HQ3 := Lib.hid hq3
  have b14 := (b2.up b3).up b4
  have H4 := Lib.hid (HH.out.later b14)
  have KA := K1.out.later b14
  have KB := K2.out.later b14
  have B4 := Lib.hid (B1.out.up b14)
  clear hw4 hq3 FP FP2 FO b2 b3 b4 b14
  go_upto_region 9 with fail
  rw [← HW4.out, HQ3.out]
  have dQ := KQ.at7
  have dA := KA.at6
  have hr := Below.refl w4.heap.size w4
  have FJ := Lib.hid (loHit H4.out HRS.out.1 HRS.out.2.1 HRS.out.2.2.1 HRS.out.2.2.2.1 HRS.out.2.2.2.2 s (nn := nn) (ao := some ⟨ag, 0, none⟩) (mm := 1) (cc := cc) (ag := ag) rfl rfl ⟨by have := HAG.out.1.1; have := B4.out.size; omega, (cell_same (B4.out.block _ HAG.out.1.1)).trans HAG.out.1.2⟩ (by rw [labNew_old HAG.out.1.1]; exact HAG.out.2))
  unfold StT.cells at FJ
  go_wp2_with fail
  refine FJ.out.mono ?_; rintro e w5 ⟨lab5, b5, rfl, le5, h5, ex5, f5⟩
  have lqb := KB.lt
  have KB5 := KB.foot f5 (HZ.out _ (by have := HQ.out; omega))
  clear dA dQ hr
  have dB := KB5.at6
  have hr := Below.refl w5.heap.size w5
  go_wp2_with fail
  have ff := foot_set6 (F := fun i => i = q + 1) (Foot.refl _ w5) rfl (.int .i64 s.tick) (.int .i64 s.at_) (.int .i64 2) (.int .i64 0) (.int .i64 T.gone) (.int .i64 s.st)
  have sz := B4.out.size
  (try simp only [Exit.inBlock, Exit.then])
  refine bodyPost_ret (v := .agg #[.int .i64 s.tick, .int .i64 s.at_, .int .i64 2, .int .i64 0, .int .i64 T.gone, .int .i64 s.st]) ?_ rfl ⟨lab5, b5, rfl, fun i hi => (le5 i (by omega)).trans (E1.out i hi), ?_, ex5, ?_⟩
  · rw [results_cell_one rfl]
    go_simp
  · refine h5.foot ff (fun i hi e => ?_)
    rw [e, le5 _ lqb] at hi
    exact HZ.out _ (by have := HQ.out; omega) hi
  · have := HQ.out
    refine ((Foot.later B4.out : Foot (fun i => isD (lab i)) w w4).then f5 (fun i hi e => ?_)).then ff (fun i hi e => by omega)
    rw [E1.out i hi] at e
    exact e

set_option maxRecDepth 100000 in
set_option maxHeartbeats 8000000 in
theorem doWoke {w : World} {lab : Nat → Nat} {b : DB} {c : ScT} {t : DT} {nn : Int} (h : DiaR w lab b c t) (h2 : t.at_ ≤ 2) (ho : overN t.li t.cu t.now = 0) (he : opVal c b t = .agg #[.int .i64 4, .string ⟨#[]⟩, .int .i64 nn, .int .i64 0, .slice none 0 0, .int .i64 0, .int .i64 0]) (hcf : c.fit) (hlv : t.lv = true) (hwin : t.win = []) (hn : i64 t.now) (hat : t.at_ = 0) (s : StT) : Calls Tryz.prog 135 #[.pointer (some ⟨b.x, 0, none⟩), .agg s.cells] w fun e w' => ∃ lab' b', e = .returned (.agg #[.int .i64 s.tick, .int .i64 s.at_, .int .i64 8, .int .i64 s.arm, .int .i64 s.n, .int .i64 s.st]) ∧ LabEq lab lab' w ∧ DiaR w' lab' b' c (comeT c t 1) ∧ b'.x = b.x ∧ Foot (fun i => isD (lab i)) w w' := by
  unfold StT.cells
  obtain ⟨q, hq⟩ : ∃ q, w.heap.size = q := ⟨_, rfl⟩
  obtain ⟨w1, hw1⟩ : ∃ w1, w1 = (w.alloc (.cells #[.int .i64 s.tick, .int .i64 s.at_, .int .i64 s.what, .int .i64 s.arm, .int .i64 s.n, .int .i64 s.st] 67)).alloc (.cells #[.int .i64 0, .int .i64 0, .int .i64 0, .int .i64 0, .int .i64 0, .int .i64 0] 67) := ⟨_, rfl⟩
  have b1 : Below w.heap.size w w1 := by rw [hw1]; exact ((Below.refl _ _).alloc (Nat.le_refl _) _).alloc (by simp) _
  have K1 : Blk w1 q 67 #[.int .i64 s.tick, .int .i64 s.at_, .int .i64 s.what, .int .i64 s.arm, .int .i64 s.n, .int .i64 s.st] := by rw [hw1, ← hq]; exact (Blk.new _ _ _).alloc _
  have K2 : Blk w1 (q + 1) 67 #[.int .i64 0, .int .i64 0, .int .i64 0, .int .i64 0, .int .i64 0, .int .i64 0] := by
    rw [hw1, ← hq]
    have := Blk.new (w.alloc (.cells #[.int .i64 s.tick, .int .i64 s.at_, .int .i64 s.what, .int .i64 s.arm, .int .i64 s.n, .int .i64 s.st] 67)) 67 #[.int .i64 0, .int .i64 0, .int .i64 0, .int .i64 0, .int .i64 0, .int .i64 0]
    simpa using this
  have e1 := labNew_eq lab w 0
  have H1 := (h.relab e1).later b1
  have HQ := Lib.hid hq
  have HW1 := Lib.hid hw1
  have E1 := Lib.hid e1
  have B1 := Lib.hid b1
  have HN := Lib.hid h.lab
  have HX := Lib.hid h.lt
  have HH := Lib.hid H1
  have K1 := Lib.hid K1
  have K2 := Lib.hid K2
  have HZ : Hid (∀ i, w.heap.size ≤ i → ¬ isD (labNew lab w 0 i)) := Lib.hid fun i hi => by rw [labNew_new hi]; exact isD_zero
  have FO : Hid (∀ w, Calls Tryz.prog 131 #[.agg #[.int .i64 t.un, .int .i64 t.li, .int .i64 t.cu], .int .i64 t.now] w fun e w' => e = .returned (.tuple #[.int .i64 0, .bool false]) ∧ Below w.heap.size w w') := Lib.hid fun w => by have := dOver t.un t.li t.cu t.now w; rw [ho] at this; exact this
  have FP : Hid (∀ w', Below w1.heap.size w1 w' → Calls Tryz.prog 98 #[.pointer (some ⟨b.x, 0, none⟩)] w' fun e' w'' => e' = .returned (.agg #[.int .i64 4, .string ⟨#[]⟩, .int .i64 nn, .int .i64 0, .slice none 0 0, .int .i64 0, .int .i64 0]) ∧ Below w'.heap.size w' w'') := Lib.hid fun w' hb => by
    have := diOpB (b := b) (c := c) (t := t) (H1.later hb).blk rfl rfl (H1.later hb).scr h2
    rwa [he] at this
  have HRS := Lib.hid (And.intro hcf (And.intro hlv (And.intro hwin (And.intro hn hat))))
  clear hcf hlv hwin hn hat
  have d : ∀ w', Below w1.heap.size w1 w' → w'.cell? ⟨b.x, 13, none⟩ = some (.int .i64 t.un) ∧ w'.cell? ⟨b.x, 14, none⟩ = some (.int .i64 t.li) ∧ w'.cell? ⟨b.x, 15, none⟩ = some (.int .i64 t.cu) ∧ w'.cell? ⟨b.x, 20, none⟩ = some (.int .i64 t.now) := fun w' hw => by
    have k := Blk.later H1.blk hw
    exact ⟨k.cell 13, k.cell 14, k.cell 15, k.cell 20⟩
  have hr := Below.refl w1.heap.size w1
  clear h hw1 hq e1 b1 H1 he ho
  go_enter Tryz.func135, Tryz.ntmps135
  go_upto_region 1 with fail
  rw [← HW1.out, HQ.out]
  refine wp_region_later w1.heap.size (by kernel_rfl) (by kernel_rfl) ?_
  have hu : ∀ u : Later w1.heap.size w1, Below w1.heap.size w1 u.world := Later.below
  repeat (go_big_quiet_step ((first | (go_at_call 131; exact later_below (Nat.le_refl _) (FO.out _)))))
  refine wpQuiet_nil ?_
  intro w2 b2
  clear d hr hu
  have FP2 := Lib.hid (FP.out w2 b2)
  go_wp2_with fail
  refine FP2.out.mono ?_; rintro e w3 ⟨rfl, b3⟩
  obtain ⟨q3, hq3⟩ : ∃ q3, w3.heap.size = q3 := ⟨_, rfl⟩
  obtain ⟨w4, hw4⟩ : ∃ w4, w4 = w3.alloc (.cells #[.int .i64 4, .string ⟨#[]⟩, .int .i64 nn, .int .i64 0, .slice none 0 0, .int .i64 0, .int .i64 0] 29) := ⟨_, rfl⟩
  have b4 : Below w3.heap.size w3 w4 := by rw [hw4]; exact Below.alloc (Below.refl _ _) (Nat.le_refl _) _
  have KQ : Blk w4 q3 29 #[.int .i64 4, .string ⟨#[]⟩, .int .i64 nn, .int .i64 0, .slice none 0 0, .int .i64 0, .int .i64 0] := by rw [hw4, ← hq3]; exact Blk.new _ _ _
  have HW4 := Lib.hid hw4
  have HQ3 := Lib.hid hq3
  have b14 := (b2.up b3).up b4
  have H4 := Lib.hid (HH.out.later b14)
  have KA := K1.out.later b14
  have KB := K2.out.later b14
  have B4 := Lib.hid (B1.out.up b14)
  clear hw4 hq3 FP FP2 FO b2 b3 b4 b14
  go_upto_region 9 with fail
  rw [← HW4.out, HQ3.out]
  have dQ := KQ.at7
  have dA := KA.at6
  have hr := Below.refl w4.heap.size w4
  have K5 := KA.set_ 2 (.int .i64 8)
  have f5 : Foot (fun i => i = q ∨ i = q + 1) w4 (w4.setCell ⟨q, 2, none⟩ (.int .i64 8)) := foot_set (fun i => i = q ∨ i = q + 1) (Foot.refl _ w4) q 2 (.inl rfl) _
  have K5' : Blk (w4.setCell ⟨q, 2, none⟩ (.int .i64 8)) q 67 #[.int .i64 s.tick, .int .i64 s.at_, .int .i64 8, .int .i64 s.arm, .int .i64 s.n, .int .i64 s.st] := by simpa using K5
  have KB5 := KB.far (p := ⟨q, 2, none⟩) (by show q + 1 ≠ q; omega) (.int .i64 8)
  have NZ : ∀ i, i = q ∨ i = q + 1 → ¬ isD (labNew lab w 0 i) := fun i e => by
    have := HQ.out
    rcases e with e | e <;> (rw [e]; exact HZ.out _ (by omega))
  have H5 := H4.out.foot f5 (fun i hi e => NZ i e hi)
  obtain ⟨w5, hw5⟩ : ∃ w5, w5 = w4.setCell ⟨q, 2, none⟩ (.int .i64 8) := ⟨_, rfl⟩
  rw [← hw5] at f5 K5' KB5 H5
  have HW5 := Lib.hid hw5
  have H5 := Lib.hid H5
  have F5 := Lib.hid f5
  have NZ := Lib.hid NZ
  have lqb := KB5.lt
  have lqa := K5'.lt
  clear hw5 K5 f5
  go_upto_region 21 with fail
  rw [← HW5.out]
  clear dA dQ hr
  have FC := Lib.hid (co1 H5.out HRS.out.1 HRS.out.2.1 HRS.out.2.2.1 HRS.out.2.2.2.1)
  have d : ∀ w', Below w5.heap.size w5 w' → w'.cell? ⟨b.x, 10, none⟩ = some (.int .i64 0) := fun w' hw => (Blk.cell (Blk.later H5.out.blk hw) 10).trans (by show some (Value.int IntKind.i64 (t.at_ : Nat)) = _; rw [HRS.out.2.2.2.2]; rfl)
  have hr := Below.refl w5.heap.size w5
  go_wp2_with fail
  refine FC.out.mono ?_; rintro e w6 ⟨lab6, b6, rfl, le6, h6, ex6, f6⟩
  have KA6 := K5'.foot f6 (NZ.out _ (.inl rfl))
  have KB6 := KB5.foot f6 (NZ.out _ (.inr rfl))
  clear d hr
  have dA := KA6.at6
  have dB := KB6.at6
  have hr := Below.refl w6.heap.size w6
  go_wp2_with fail
  have ff := foot_set6 (F := fun i => i = q + 1) (Foot.refl _ w6) rfl (.int .i64 s.tick) (.int .i64 s.at_) (.int .i64 8) (.int .i64 s.arm) (.int .i64 s.n) (.int .i64 s.st)
  have sz := B4.out.size
  have sz5 := F5.out.size
  (try simp only [Exit.inBlock, Exit.then])
  refine bodyPost_ret (v := .agg #[.int .i64 s.tick, .int .i64 s.at_, .int .i64 8, .int .i64 s.arm, .int .i64 s.n, .int .i64 s.st]) ?_ rfl ⟨lab6, b6, rfl, fun i hi => (le6 i (by omega)).trans (E1.out i hi), ?_, ex6, ?_⟩
  · rw [results_cell_one rfl]
    go_simp
  · refine h6.foot ff (fun i hi e => ?_)
    rw [e, le6 _ lqb] at hi
    exact NZ.out _ (.inr rfl) hi
  · have := HQ.out
    refine (((Foot.later B4.out : Foot (fun i => isD (lab i)) w w4).then F5.out (fun i hi e => by omega)).then f6 (fun i hi e => ?_)).then ff (fun i hi e => by omega)
    rw [E1.out i hi] at e
    exact e

set_option maxRecDepth 100000 in
set_option maxHeartbeats 8000000 in
theorem doDone {w : World} {lab : Nat → Nat} {b : DB} {c : ScT} {t : DT} (h : DiaR w lab b c t) (h2 : t.at_ ≤ 2) (ho : overN t.li t.cu t.now = 0) (he : opVal c b t = .agg #[.int .i64 0, .string ⟨#[]⟩, .int .i64 0, .int .i64 0, .slice none 0 0, .int .i64 0, .int .i64 0]) (s : StT) : Calls Tryz.prog 135 #[.pointer (some ⟨b.x, 0, none⟩), .agg s.cells] w fun e w' => e = .returned (.agg #[.int .i64 s.tick, .int .i64 s.at_, .int .i64 9, .int .i64 s.arm, .int .i64 s.n, .int .i64 s.st]) ∧ DiE w' b.x 1 ∧ Foot (fun i => isD (lab i)) w w' := by
  unfold StT.cells
  obtain ⟨q, hq⟩ : ∃ q, w.heap.size = q := ⟨_, rfl⟩
  obtain ⟨w1, hw1⟩ : ∃ w1, w1 = (w.alloc (.cells #[.int .i64 s.tick, .int .i64 s.at_, .int .i64 s.what, .int .i64 s.arm, .int .i64 s.n, .int .i64 s.st] 67)).alloc (.cells #[.int .i64 0, .int .i64 0, .int .i64 0, .int .i64 0, .int .i64 0, .int .i64 0] 67) := ⟨_, rfl⟩
  have b1 : Below w.heap.size w w1 := by rw [hw1]; exact ((Below.refl _ _).alloc (Nat.le_refl _) _).alloc (by simp) _
  have K1 : Blk w1 q 67 #[.int .i64 s.tick, .int .i64 s.at_, .int .i64 s.what, .int .i64 s.arm, .int .i64 s.n, .int .i64 s.st] := by rw [hw1, ← hq]; exact (Blk.new _ _ _).alloc _
  have K2 : Blk w1 (q + 1) 67 #[.int .i64 0, .int .i64 0, .int .i64 0, .int .i64 0, .int .i64 0, .int .i64 0] := by
    rw [hw1, ← hq]
    have := Blk.new (w.alloc (.cells #[.int .i64 s.tick, .int .i64 s.at_, .int .i64 s.what, .int .i64 s.arm, .int .i64 s.n, .int .i64 s.st] 67)) 67 #[.int .i64 0, .int .i64 0, .int .i64 0, .int .i64 0, .int .i64 0, .int .i64 0]
    simpa using this
  have e1 := labNew_eq lab w 0
  have H1 := (h.relab e1).later b1
  have HQ := Lib.hid hq
  have HW1 := Lib.hid hw1
  have E1 := Lib.hid e1
  have B1 := Lib.hid b1
  have HN := Lib.hid h.lab
  have HX := Lib.hid h.lt
  have HH := Lib.hid H1
  have K1 := Lib.hid K1
  have K2 := Lib.hid K2
  have HZ : Hid (∀ i, w.heap.size ≤ i → ¬ isD (labNew lab w 0 i)) := Lib.hid fun i hi => by rw [labNew_new hi]; exact isD_zero
  have FO : Hid (∀ w, Calls Tryz.prog 131 #[.agg #[.int .i64 t.un, .int .i64 t.li, .int .i64 t.cu], .int .i64 t.now] w fun e w' => e = .returned (.tuple #[.int .i64 0, .bool false]) ∧ Below w.heap.size w w') := Lib.hid fun w => by have := dOver t.un t.li t.cu t.now w; rw [ho] at this; exact this
  have FP : Hid (∀ w', Below w1.heap.size w1 w' → Calls Tryz.prog 98 #[.pointer (some ⟨b.x, 0, none⟩)] w' fun e' w'' => e' = .returned (.agg #[.int .i64 0, .string ⟨#[]⟩, .int .i64 0, .int .i64 0, .slice none 0 0, .int .i64 0, .int .i64 0]) ∧ Below w'.heap.size w' w'') := Lib.hid fun w' hb => by
    have := diOpB (b := b) (c := c) (t := t) (H1.later hb).blk rfl rfl (H1.later hb).scr h2
    rwa [he] at this

  have d : ∀ w', Below w1.heap.size w1 w' → w'.cell? ⟨b.x, 13, none⟩ = some (.int .i64 t.un) ∧ w'.cell? ⟨b.x, 14, none⟩ = some (.int .i64 t.li) ∧ w'.cell? ⟨b.x, 15, none⟩ = some (.int .i64 t.cu) ∧ w'.cell? ⟨b.x, 20, none⟩ = some (.int .i64 t.now) := fun w' hw => by
    have k := Blk.later H1.blk hw
    exact ⟨k.cell 13, k.cell 14, k.cell 15, k.cell 20⟩
  have hr := Below.refl w1.heap.size w1
  clear h hw1 hq e1 b1 H1 he ho
  go_enter Tryz.func135, Tryz.ntmps135
  go_upto_region 1 with fail
  rw [← HW1.out, HQ.out]
  refine wp_region_later w1.heap.size (by kernel_rfl) (by kernel_rfl) ?_
  have hu : ∀ u : Later w1.heap.size w1, Below w1.heap.size w1 u.world := Later.below
  repeat (go_big_quiet_step ((first | (go_at_call 131; exact later_below (Nat.le_refl _) (FO.out _)))))
  refine wpQuiet_nil ?_
  intro w2 b2
  clear d hr hu
  have FP2 := Lib.hid (FP.out w2 b2)
  go_wp2_with fail
  refine FP2.out.mono ?_; rintro e w3 ⟨rfl, b3⟩
  obtain ⟨q3, hq3⟩ : ∃ q3, w3.heap.size = q3 := ⟨_, rfl⟩
  obtain ⟨w4, hw4⟩ : ∃ w4, w4 = w3.alloc (.cells #[.int .i64 0, .string ⟨#[]⟩, .int .i64 0, .int .i64 0, .slice none 0 0, .int .i64 0, .int .i64 0] 29) := ⟨_, rfl⟩
  have b4 : Below w3.heap.size w3 w4 := by rw [hw4]; exact Below.alloc (Below.refl _ _) (Nat.le_refl _) _
  have KQ : Blk w4 q3 29 #[.int .i64 0, .string ⟨#[]⟩, .int .i64 0, .int .i64 0, .slice none 0 0, .int .i64 0, .int .i64 0] := by rw [hw4, ← hq3]; exact Blk.new _ _ _
  have HW4 := Lib.hid hw4
  have HQ3 := Lib.hid hq3
  have b14 := (b2.up b3).up b4
  have H4 := Lib.hid (HH.out.later b14)
  have KA := K1.out.later b14
  have KB := K2.out.later b14
  have B4 := Lib.hid (B1.out.up b14)
  clear hw4 hq3 FP FP2 FO b2 b3 b4 b14
  go_upto_region 9 with fail
  rw [← HW4.out, HQ3.out]
  have dQ := KQ.at7
  have dA := KA.at6
  have hr := Below.refl w4.heap.size w4
  have K5 := KA.set_ 2 (.int .i64 9)
  have f5 : Foot (fun i => i = q ∨ i = q + 1) w4 (w4.setCell ⟨q, 2, none⟩ (.int .i64 9)) := foot_set (fun i => i = q ∨ i = q + 1) (Foot.refl _ w4) q 2 (.inl rfl) _
  have K5' : Blk (w4.setCell ⟨q, 2, none⟩ (.int .i64 9)) q 67 #[.int .i64 s.tick, .int .i64 s.at_, .int .i64 9, .int .i64 s.arm, .int .i64 s.n, .int .i64 s.st] := by simpa using K5
  have KB5 := KB.far (p := ⟨q, 2, none⟩) (by show q + 1 ≠ q; omega) (.int .i64 9)
  have NZ : ∀ i, i = q ∨ i = q + 1 → ¬ isD (labNew lab w 0 i) := fun i e => by
    have := HQ.out
    rcases e with e | e <;> (rw [e]; exact HZ.out _ (by omega))
  have H5 := H4.out.foot f5 (fun i hi e => NZ i e hi)
  obtain ⟨w5, hw5⟩ : ∃ w5, w5 = w4.setCell ⟨q, 2, none⟩ (.int .i64 9) := ⟨_, rfl⟩
  rw [← hw5] at f5 K5' KB5 H5
  have HW5 := Lib.hid hw5
  have H5 := Lib.hid H5
  have F5 := Lib.hid f5
  have NZ := Lib.hid NZ
  have lqb := KB5.lt
  have lqa := K5'.lt
  clear hw5 K5 f5
  go_upto_region 11 with fail
  rw [← HW5.out]
  clear dA dQ hr
  have FS := Lib.hid (diStop H5.out.blk (r := c.r) (n := c.n) (o := c.o) ⟨rfl, rfl, rfl⟩ H5.out.ok.r H5.out.ok.n 1)
  go_wp2_with fail
  refine FS.out.mono ?_; rintro e w6 ⟨rfl, e6, f6⟩
  have hxl := HX.out.1
  have KA6 := K5'.foot f6 (by have := HQ.out; omega)
  have KB6 := KB5.foot f6 (by have := HQ.out; omega)
  have dA := KA6.at6
  have dB := KB6.at6
  have hr := Below.refl w6.heap.size w6
  go_wp2_with fail
  have ff := foot_set6 (F := fun i => i = q + 1) (Foot.refl _ w6) rfl (.int .i64 s.tick) (.int .i64 s.at_) (.int .i64 9) (.int .i64 s.arm) (.int .i64 s.n) (.int .i64 s.st)
  (try simp only [Exit.inBlock, Exit.then])
  refine bodyPost_ret (v := .agg #[.int .i64 s.tick, .int .i64 s.at_, .int .i64 9, .int .i64 s.arm, .int .i64 s.n, .int .i64 s.st]) ?_ rfl ⟨rfl, ?_, ?_⟩
  · rw [results_cell_one rfl]
    go_simp
  · obtain ⟨d6, h6, e6⟩ := e6
    exact ⟨d6, Blk.foot h6 ff (by have := HQ.out; omega), e6⟩
  · have := HQ.out
    exact (((Foot.later B4.out : Foot (fun i => isD (lab i)) w w4).then F5.out (fun i hi e => by omega)).then f6 (fun i hi e => by rw [e, HN.out.x]; exact ⟨by omega, by omega⟩)).then ff (fun i hi e => by omega)
end Go.Proofs.YtbhgmccaecmpjaaGreat
