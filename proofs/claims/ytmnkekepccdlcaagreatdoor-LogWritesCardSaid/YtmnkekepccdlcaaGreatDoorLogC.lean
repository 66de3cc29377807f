/-
  Which step may be.
  Conditions: none.
-/
import Derived.Test.YtmnkekepccdlcaaGreatDoorLogB
import Derived.Test.YtmnkekepccdlcaaGreatDoorLexH
namespace Go.Proofs.YtmnkekepccdlcaaGreatDoor
set_option linter.unusedVariables false
set_option linter.unusedSimpArgs false
open Go.RowKit

theorem bel_alloc {W w' : World} (h : Below W.heap.size W w') (o : Obj) : Below W.heap.size W (w'.alloc o) := h.alloc h.size _
theorem bel_call {W w' : World} {v : Value} {f : FuncId} {args : Array Value} (h : Below W.heap.size W w') (hc : Calls Tryz.prog f args w' fun e w'' => e = .returned v ∧ Below w'.heap.size w' w'') :
    Calls Tryz.prog f args w' fun e w'' => e = .returned v ∧ Below W.heap.size W w'' ∧ Below w'.heap.size w' w'' := hc.mono fun _ _ ⟨a, b⟩ => ⟨a, h.up b, b⟩
theorem lInB {n a b : Int} {r : Bool} (h : inT n a b = r) (w : World) : Calls Tryz.prog 73 #[.int .i64 n, .int .i64 a, .int .i64 b] w fun e w' => e = .returned (.bool r) ∧ w = w' := by
  rw [← h]; exact lIn n a b w

set_option maxHeartbeats 4000000 in
set_option maxRecDepth 100000 in
theorem lStep (x : Ev) (w : World) : Calls Tryz.prog 74 #[.agg (stC x)] w fun e w' => e = .returned (.bool (stepT x)) ∧ Below w.heap.size w w' := by
  obtain ⟨w1, hw1⟩ : ∃ w1, w.alloc (.cells (stC x) 25) = w1 := ⟨_, rfl⟩
  have k1 : Blk w1 w.heap.size 25 (stC x) := by rw [← hw1]; exact Blk.new _ _ _
  have hb : Below w.heap.size w w1 := by rw [← hw1]; exact (Below.refl _ _).alloc (Nat.le_refl _) _
  have HW1 := Lib.hid hw1
  have HB := Lib.hid hb
  clear hw1 hb
  obtain ⟨k, d, n, t, b, er, s1, s2, s3, s4, s5, s6⟩ := x
  simp only [stC] at k1 HW1 ⊢
  unfold stepT
  simp only
  have d1 := k1.at6
  have hr := Below.refl w1.heap.size w1
  have MK : Hid (∀ w', Below w1.heap.size w1 w' → Below w1.heap.size w1 w' ∧ (w'.cell? ⟨w.heap.size, 0, none⟩ = some (.int .i64 s1) ∧ w'.cell? ⟨w.heap.size, 1, none⟩ = some (.int .i64 s2) ∧ w'.cell? ⟨w.heap.size, 2, none⟩ = some (.int .i64 s3) ∧ w'.cell? ⟨w.heap.size, 3, none⟩ = some (.int .i64 s4) ∧ w'.cell? ⟨w.heap.size, 4, none⟩ = some (.int .i64 s5) ∧ w'.cell? ⟨w.heap.size, 5, none⟩ = some (.int .i64 s6))) := Lib.hid fun w' h => ⟨h, (d1 w' h).1, (d1 w' h).2.1, (d1 w' h).2.2.1, (d1 w' h).2.2.2.1, (d1 w' h).2.2.2.2.1, (d1 w' h).2.2.2.2.2.1⟩
  clear k1
  by_cases c1 : decide (0 ≤ s1) = false
  · go_enter Tryz.func74, Tryz.ntmps74
    go_upto_region 1 with fail
    rw [HW1.out]
    go_region
    all_goals go_wp2_with fail
    all_goals go_ret
    all_goals exact ⟨by simp [c1], HB.out.up (by (repeat' (first | exact Below.refl _ _ | assumption | exact And.left (by assumption) | apply bel_alloc | apply Below.drew)))⟩
  · have c1 := eq_true_of_ne_false c1
    cases c2 : inT s2 0 200
    · have G2 := Lib.hid fun w' => lInB c2 w'
      go_enter Tryz.func74, Tryz.ntmps74
      go_upto_region 1 with fail
      rw [HW1.out]
      have HC := Lib.hid c2
      clear c2
      refine wp_region_lexH (S := (fun w' => Below w1.heap.size w1 w' ∧ (w'.cell? ⟨w.heap.size, 0, none⟩ = some (.int .i64 s1) ∧ w'.cell? ⟨w.heap.size, 1, none⟩ = some (.int .i64 s2) ∧ w'.cell? ⟨w.heap.size, 2, none⟩ = some (.int .i64 s3) ∧ w'.cell? ⟨w.heap.size, 3, none⟩ = some (.int .i64 s4) ∧ w'.cell? ⟨w.heap.size, 4, none⟩ = some (.int .i64 s5) ∧ w'.cell? ⟨w.heap.size, 5, none⟩ = some (.int .i64 s6)))) (by kernel_rfl) (by kernel_rfl) (by kernel_rfl) (MK.out _ (by (repeat' (first | exact Below.refl _ _ | assumption | exact And.left (by assumption) | apply bel_alloc | apply Below.drew)))) ?_
      clear d1 hr
      repeat (first | (refine lexH_skip (by rfl) ?_; simp only [Act.put, List.setIfInBounds_toArray, List.set_cons_zero, List.set_cons_succ]) | (refine lexH_take (v := ?_) (by rfl) ?_ ?_; rotate_left; (focus (intro w hSw; (try dsimp only at hSw); go_simp; (try with_reducible rfl))); simp only [Act.put, List.setIfInBounds_toArray, List.set_cons_zero, List.set_cons_succ]) | (refine lexH_call (by rfl) (by rfl) (fun K hK => ?_); go_simp; (first | (go_at_call 73; with_reducible (refine (G2.out _).mono ?_); rintro e wn ⟨rfl, rfl⟩)); (try go_wp2_with fail); refine hK.out _ _ (MK.out _ (by (repeat' (first | exact Below.refl _ _ | assumption | exact And.left (by assumption) | apply bel_alloc | apply Below.drew)))) (fun _ => ?_); clear hK; (try simp only [Act.put, List.setIfInBounds_toArray, List.set_cons_zero, List.set_cons_succ])))
      refine lexH_done ?_
      go_wp2_with fail
      all_goals go_ret
      all_goals exact ⟨by simp [c1, HC.out], HB.out.up (by (repeat' (first | exact Below.refl _ _ | assumption | exact And.left (by assumption) | apply bel_alloc | apply Below.drew)))⟩
    · skip
      cases c3 : inT s3 1 14
      · have G2 := Lib.hid fun w' => lInB c2 w'
        have G3 := Lib.hid fun w' => lInB c3 w'
        go_enter Tryz.func74, Tryz.ntmps74
        go_upto_region 1 with fail
        rw [HW1.out]
        have HC := Lib.hid (show (inT s2 0 200 = true ∧ inT s3 1 14 = false) from ⟨c2, c3⟩)
        clear c2 c3
        refine wp_region_lexH (S := (fun w' => Below w1.heap.size w1 w' ∧ (w'.cell? ⟨w.heap.size, 0, none⟩ = some (.int .i64 s1) ∧ w'.cell? ⟨w.heap.size, 1, none⟩ = some (.int .i64 s2) ∧ w'.cell? ⟨w.heap.size, 2, none⟩ = some (.int .i64 s3) ∧ w'.cell? ⟨w.heap.size, 3, none⟩ = some (.int .i64 s4) ∧ w'.cell? ⟨w.heap.size, 4, none⟩ = some (.int .i64 s5) ∧ w'.cell? ⟨w.heap.size, 5, none⟩ = some (.int .i64 s6)))) (by kernel_rfl) (by kernel_rfl) (by kernel_rfl) (MK.out _ (by (repeat' (first | exact Below.refl _ _ | assumption | exact And.left (by assumption) | apply bel_alloc | apply Below.drew)))) ?_
        clear d1 hr
        have z14 : IntKind.i64.wrap 14 = 14 := by decide
        repeat (first | (refine lexH_skip (by rfl) ?_; simp only [Act.put, List.setIfInBounds_toArray, List.set_cons_zero, List.set_cons_succ]) | (refine lexH_take (v := ?_) (by rfl) ?_ ?_; rotate_left; (focus (intro w hSw; (try dsimp only at hSw); go_simp; (try with_reducible rfl))); simp only [Act.put, List.setIfInBounds_toArray, List.set_cons_zero, List.set_cons_succ]) | (refine lexH_call (by rfl) (by rfl) (fun K hK => ?_); go_simp; (first | (go_at_call 73; with_reducible (refine (G2.out _).mono ?_); rintro e wn ⟨rfl, rfl⟩) | (go_at_call 73; with_reducible (refine (G3.out _).mono ?_); rintro e wn ⟨rfl, rfl⟩) | (go_at_call 47; refine (lWhats _).mono ?_; rintro e wn ⟨rfl, rfl⟩)); (try go_wp2_with fail); refine hK.out _ _ (MK.out _ (by (repeat' (first | exact Below.refl _ _ | assumption | exact And.left (by assumption) | apply bel_alloc | apply Below.drew)))) (fun _ => ?_); clear hK; (try simp only [Act.put, List.setIfInBounds_toArray, List.set_cons_zero, List.set_cons_succ])))
        refine lexH_done ?_
        go_wp2_with fail
        all_goals go_ret
        all_goals exact ⟨by simp [c1, HC.out], HB.out.up (by (repeat' (first | exact Below.refl _ _ | assumption | exact And.left (by assumption) | apply bel_alloc | apply Below.drew)))⟩
      · skip
        cases c4 : inT s4 0 7
        · have G2 := Lib.hid fun w' => lInB c2 w'
          have G3 := Lib.hid fun w' => lInB c3 w'
          have G4 := Lib.hid fun w' => lInB c4 w'
          go_enter Tryz.func74, Tryz.ntmps74
          go_upto_region 1 with fail
          rw [HW1.out]
          have HC := Lib.hid (show (inT s2 0 200 = true ∧ inT s3 1 14 = true ∧ inT s4 0 7 = false) from ⟨c2, c3, c4⟩)
          clear c2 c3 c4
          refine wp_region_lexH (S := (fun w' => Below w1.heap.size w1 w' ∧ (w'.cell? ⟨w.heap.size, 0, none⟩ = some (.int .i64 s1) ∧ w'.cell? ⟨w.heap.size, 1, none⟩ = some (.int .i64 s2) ∧ w'.cell? ⟨w.heap.size, 2, none⟩ = some (.int .i64 s3) ∧ w'.cell? ⟨w.heap.size, 3, none⟩ = some (.int .i64 s4) ∧ w'.cell? ⟨w.heap.size, 4, none⟩ = some (.int .i64 s5) ∧ w'.cell? ⟨w.heap.size, 5, none⟩ = some (.int .i64 s6)))) (by kernel_rfl) (by kernel_rfl) (by kernel_rfl) (MK.out _ (by (repeat' (first | exact Below.refl _ _ | assumption | exact And.left (by assumption) | apply bel_alloc | apply Below.drew)))) ?_
          clear d1 hr
          have z14 : IntKind.i64.wrap 14 = 14 := by decide
          repeat (first | (refine lexH_skip (by rfl) ?_; simp only [Act.put, List.setIfInBounds_toArray, List.set_cons_zero, List.set_cons_succ]) | (refine lexH_take (v := ?_) (by rfl) ?_ ?_; rotate_left; (focus (intro w hSw; (try dsimp only at hSw); go_simp; (try with_reducible rfl))); simp only [Act.put, List.setIfInBounds_toArray, List.set_cons_zero, List.set_cons_succ]) | (refine lexH_call (by rfl) (by rfl) (fun K hK => ?_); go_simp; (first | (go_at_call 73; with_reducible (refine (G2.out _).mono ?_); rintro e wn ⟨rfl, rfl⟩) | (go_at_call 73; with_reducible (refine (G3.out _).mono ?_); rintro e wn ⟨rfl, rfl⟩) | (go_at_call 73; with_reducible (refine (G4.out _).mono ?_); rintro e wn ⟨rfl, rfl⟩) | (go_at_call 47; refine (lWhats _).mono ?_; rintro e wn ⟨rfl, rfl⟩)); (try go_wp2_with fail); refine hK.out _ _ (MK.out _ (by (repeat' (first | exact Below.refl _ _ | assumption | exact And.left (by assumption) | apply bel_alloc | apply Below.drew)))) (fun _ => ?_); clear hK; (try simp only [Act.put, List.setIfInBounds_toArray, List.set_cons_zero, List.set_cons_succ])))
          refine lexH_done ?_
          go_wp2_with fail
          all_goals go_ret
          all_goals exact ⟨by simp [c1, HC.out], HB.out.up (by (repeat' (first | exact Below.refl _ _ | assumption | exact And.left (by assumption) | apply bel_alloc | apply Below.drew)))⟩
        · skip
          cases c5 : inT s5 0 4096
          · have G2 := Lib.hid fun w' => lInB c2 w'
            have G3 := Lib.hid fun w' => lInB c3 w'
            have G4 := Lib.hid fun w' => lInB c4 w'
            have G5 := Lib.hid fun w' => lInB c5 w'
            go_enter Tryz.func74, Tryz.ntmps74
            go_upto_region 1 with fail
            rw [HW1.out]
            have HC := Lib.hid (show (inT s2 0 200 = true ∧ inT s3 1 14 = true ∧ inT s4 0 7 = true ∧ inT s5 0 4096 = false) from ⟨c2, c3, c4, c5⟩)
            clear c2 c3 c4 c5
            refine wp_region_lexH (S := (fun w' => Below w1.heap.size w1 w' ∧ (w'.cell? ⟨w.heap.size, 0, none⟩ = some (.int .i64 s1) ∧ w'.cell? ⟨w.heap.size, 1, none⟩ = some (.int .i64 s2) ∧ w'.cell? ⟨w.heap.size, 2, none⟩ = some (.int .i64 s3) ∧ w'.cell? ⟨w.heap.size, 3, none⟩ = some (.int .i64 s4) ∧ w'.cell? ⟨w.heap.size, 4, none⟩ = some (.int .i64 s5) ∧ w'.cell? ⟨w.heap.size, 5, none⟩ = some (.int .i64 s6)))) (by kernel_rfl) (by kernel_rfl) (by kernel_rfl) (MK.out _ (by (repeat' (first | exact Below.refl _ _ | assumption | exact And.left (by assumption) | apply bel_alloc | apply Below.drew)))) ?_
            clear d1 hr
            have z14 : IntKind.i64.wrap 14 = 14 := by decide
            repeat (first | (refine lexH_skip (by rfl) ?_; simp only [Act.put, List.setIfInBounds_toArray, List.set_cons_zero, List.set_cons_succ]) | (refine lexH_take (v := ?_) (by rfl) ?_ ?_; rotate_left; (focus (intro w hSw; (try dsimp only at hSw); go_simp; (try with_reducible rfl))); simp only [Act.put, List.setIfInBounds_toArray, List.set_cons_zero, List.set_cons_succ]) | (refine lexH_call (by rfl) (by rfl) (fun K hK => ?_); go_simp; (first | (go_at_call 73; with_reducible (refine (G2.out _).mono ?_); rintro e wn ⟨rfl, rfl⟩) | (go_at_call 73; with_reducible (refine (G3.out _).mono ?_); rintro e wn ⟨rfl, rfl⟩) | (go_at_call 73; with_reducible (refine (G4.out _).mono ?_); rintro e wn ⟨rfl, rfl⟩) | (go_at_call 73; with_reducible (refine (G5.out _).mono ?_); rintro e wn ⟨rfl, rfl⟩) | (go_at_call 47; refine (lWhats _).mono ?_; rintro e wn ⟨rfl, rfl⟩)); (try go_wp2_with fail); refine hK.out _ _ (MK.out _ (by (repeat' (first | exact Below.refl _ _ | assumption | exact And.left (by assumption) | apply bel_alloc | apply Below.drew)))) (fun _ => ?_); clear hK; (try simp only [Act.put, List.setIfInBounds_toArray, List.set_cons_zero, List.set_cons_succ])))
            refine lexH_done ?_
            go_wp2_with fail
            all_goals go_ret
            all_goals exact ⟨by simp [c1, HC.out], HB.out.up (by (repeat' (first | exact Below.refl _ _ | assumption | exact And.left (by assumption) | apply bel_alloc | apply Below.drew)))⟩
          · skip
            cases c6 : inT s6 0 5
            · have G2 := Lib.hid fun w' => lInB c2 w'
              have G3 := Lib.hid fun w' => lInB c3 w'
              have G4 := Lib.hid fun w' => lInB c4 w'
              have G5 := Lib.hid fun w' => lInB c5 w'
              have G6 := Lib.hid fun w' => lInB c6 w'
              go_enter Tryz.func74, Tryz.ntmps74
              go_upto_region 1 with fail
              rw [HW1.out]
              have HC := Lib.hid (show (inT s2 0 200 = true ∧ inT s3 1 14 = true ∧ inT s4 0 7 = true ∧ inT s5 0 4096 = true ∧ inT s6 0 5 = false) from ⟨c2, c3, c4, c5, c6⟩)
              clear c2 c3 c4 c5 c6
              refine wp_region_lexH (S := (fun w' => Below w1.heap.size w1 w' ∧ (w'.cell? ⟨w.heap.size, 0, none⟩ = some (.int .i64 s1) ∧ w'.cell? ⟨w.heap.size, 1, none⟩ = some (.int .i64 s2) ∧ w'.cell? ⟨w.heap.size, 2, none⟩ = some (.int .i64 s3) ∧ w'.cell? ⟨w.heap.size, 3, none⟩ = some (.int .i64 s4) ∧ w'.cell? ⟨w.heap.size, 4, none⟩ = some (.int .i64 s5) ∧ w'.cell? ⟨w.heap.size, 5, none⟩ = some (.int .i64 s6)))) (by kernel_rfl) (by kernel_rfl) (by kernel_rfl) (MK.out _ (by (repeat' (first | exact Below.refl _ _ | assumption | exact And.left (by assumption) | apply bel_alloc | apply Below.drew)))) ?_
              clear d1 hr
              have z14 : IntKind.i64.wrap 14 = 14 := by decide
              have z5 : IntKind.i64.wrap 5 = 5 := by decide
              repeat (first | (refine lexH_skip (by rfl) ?_; simp only [Act.put, List.setIfInBounds_toArray, List.set_cons_zero, List.set_cons_succ]) | (refine lexH_take (v := ?_) (by rfl) ?_ ?_; rotate_left; (focus (intro w hSw; (try dsimp only at hSw); go_simp; (try with_reducible rfl))); simp only [Act.put, List.setIfInBounds_toArray, List.set_cons_zero, List.set_cons_succ]) | (refine lexH_call (by rfl) (by rfl) (fun K hK => ?_); go_simp; (first | (go_at_call 73; with_reducible (refine (G2.out _).mono ?_); rintro e wn ⟨rfl, rfl⟩) | (go_at_call 73; with_reducible (refine (G3.out _).mono ?_); rintro e wn ⟨rfl, rfl⟩) | (go_at_call 73; with_reducible (refine (G4.out _).mono ?_); rintro e wn ⟨rfl, rfl⟩) | (go_at_call 73; with_reducible (refine (G5.out _).mono ?_); rintro e wn ⟨rfl, rfl⟩) | (go_at_call 73; with_reducible (refine (G6.out _).mono ?_); rintro e wn ⟨rfl, rfl⟩) | (go_at_call 47; refine (lWhats _).mono ?_; rintro e wn ⟨rfl, rfl⟩) | (go_at_call 48; refine (lStats _).mono ?_; rintro e wn ⟨rfl, rfl⟩)); (try go_wp2_with fail); refine hK.out _ _ (MK.out _ (by (repeat' (first | exact Below.refl _ _ | assumption | exact And.left (by assumption) | apply bel_alloc | apply Below.drew)))) (fun _ => ?_); clear hK; (try simp only [Act.put, List.setIfInBounds_toArray, List.set_cons_zero, List.set_cons_succ])))
              refine lexH_done ?_
              go_wp2_with fail
              all_goals go_ret
              all_goals exact ⟨by simp [c1, HC.out], HB.out.up (by (repeat' (first | exact Below.refl _ _ | assumption | exact And.left (by assumption) | apply bel_alloc | apply Below.drew)))⟩
            · have G2 := Lib.hid fun w' => lInB c2 w'
              have G3 := Lib.hid fun w' => lInB c3 w'
              have G4 := Lib.hid fun w' => lInB c4 w'
              have G5 := Lib.hid fun w' => lInB c5 w'
              have G6 := Lib.hid fun w' => lInB c6 w'
              go_enter Tryz.func74, Tryz.ntmps74
              go_upto_region 1 with fail
              rw [HW1.out]
              have HC := Lib.hid (show (inT s2 0 200 = true ∧ inT s3 1 14 = true ∧ inT s4 0 7 = true ∧ inT s5 0 4096 = true ∧ inT s6 0 5 = true) from ⟨c2, c3, c4, c5, c6⟩)
              clear c2 c3 c4 c5 c6
              refine wp_region_lexH (S := (fun w' => Below w1.heap.size w1 w' ∧ (w'.cell? ⟨w.heap.size, 0, none⟩ = some (.int .i64 s1) ∧ w'.cell? ⟨w.heap.size, 1, none⟩ = some (.int .i64 s2) ∧ w'.cell? ⟨w.heap.size, 2, none⟩ = some (.int .i64 s3) ∧ w'.cell? ⟨w.heap.size, 3, none⟩ = some (.int .i64 s4) ∧ w'.cell? ⟨w.heap.size, 4, none⟩ = some (.int .i64 s5) ∧ w'.cell? ⟨w.heap.size, 5, none⟩ = some (.int .i64 s6)))) (by kernel_rfl) (by kernel_rfl) (by kernel_rfl) (MK.out _ (by (repeat' (first | exact Below.refl _ _ | assumption | exact And.left (by assumption) | apply bel_alloc | apply Below.drew)))) ?_
              clear d1 hr
              have z14 : IntKind.i64.wrap 14 = 14 := by decide
              have z5 : IntKind.i64.wrap 5 = 5 := by decide
              repeat (first | (refine lexH_skip (by rfl) ?_; simp only [Act.put, List.setIfInBounds_toArray, List.set_cons_zero, List.set_cons_succ]) | (refine lexH_take (v := ?_) (by rfl) ?_ ?_; rotate_left; (focus (intro w hSw; (try dsimp only at hSw); go_simp; (try with_reducible rfl))); simp only [Act.put, List.setIfInBounds_toArray, List.set_cons_zero, List.set_cons_succ]) | (refine lexH_call (by rfl) (by rfl) (fun K hK => ?_); go_simp; (first | (go_at_call 73; with_reducible (refine (G2.out _).mono ?_); rintro e wn ⟨rfl, rfl⟩) | (go_at_call 73; with_reducible (refine (G3.out _).mono ?_); rintro e wn ⟨rfl, rfl⟩) | (go_at_call 73; with_reducible (refine (G4.out _).mono ?_); rintro e wn ⟨rfl, rfl⟩) | (go_at_call 73; with_reducible (refine (G5.out _).mono ?_); rintro e wn ⟨rfl, rfl⟩) | (go_at_call 73; with_reducible (refine (G6.out _).mono ?_); rintro e wn ⟨rfl, rfl⟩) | (go_at_call 47; refine (lWhats _).mono ?_; rintro e wn ⟨rfl, rfl⟩) | (go_at_call 48; refine (lStats _).mono ?_; rintro e wn ⟨rfl, rfl⟩)); (try go_wp2_with fail); refine hK.out _ _ (MK.out _ (by (repeat' (first | exact Below.refl _ _ | assumption | exact And.left (by assumption) | apply bel_alloc | apply Below.drew)))) (fun _ => ?_); clear hK; (try simp only [Act.put, List.setIfInBounds_toArray, List.set_cons_zero, List.set_cons_succ])))
              refine lexH_done ?_
              go_wp2_with fail
              all_goals go_ret
              all_goals exact ⟨by simp [c1, HC.out], HB.out.up (by (repeat' (first | exact Below.refl _ _ | assumption | exact And.left (by assumption) | apply bel_alloc | apply Below.drew)))⟩
end Go.Proofs.YtmnkekepccdlcaaGreatDoor
