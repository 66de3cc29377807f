/-
  Which event may be.
  Conditions: none.
-/
import Derived.Test.YtmnkekepccdlcaaGreatDoorLogC
namespace Go.Proofs.YtmnkekepccdlcaaGreatDoor
set_option linter.unusedVariables false
set_option linter.unusedSimpArgs false
open Go.RowKit

theorem bytes_of_toList {a b : ByteArray} (h : a.toList = b.toList) : a = b := by
  rw [Lib.toList_data, Lib.toList_data] at h
  exact ByteArray.ext (Array.toList_inj.1 h)
theorem ev_all {x y : Ev} (h1 : x.kind = y.kind) (h2 : x.id = y.id) (h3 : x.n = y.n) (h4 : x.tick = y.tick) (h5 : x.bytes.toList = y.bytes.toList) (h6 : x.err = y.err) (h7 : x.sT = y.sT) (h8 : x.sA = y.sA) (h9 : x.sW = y.sW) (h10 : x.sR = y.sR) (h11 : x.sN = y.sN) (h12 : x.sS = y.sS) : x = y := by
  cases x; cases y; simp only at h1 h2 h3 h4 h5 h6 h7 h8 h9 h10 h11 h12; have h5 := bytes_of_toList h5; subst h1 h2 h3 h4 h5 h6 h7 h8 h9 h10 h11 h12; rfl
set_option maxHeartbeats 4000000 in
set_option maxRecDepth 100000 in
theorem lGood_no (x : Ev) (w : World) (hs : x.bytes.size ≤ 1000000) (hne : ¬ x = bareT x) : Calls Tryz.prog 44 #[.agg (evC x)] w fun e w' => e = .returned (.bool false) ∧ Below w.heap.size w w' := by
  obtain ⟨w1, hw1⟩ : ∃ w1, w.alloc (.cells (evC x) 27) = w1 := ⟨_, rfl⟩
  have k1 : Blk w1 w.heap.size 27 (evC x) := by rw [← hw1]; exact Blk.new _ _ _
  have hb : Below w.heap.size w w1 := by rw [← hw1]; exact (Below.refl _ _).alloc (Nat.le_refl _) _
  have HW1 := Lib.hid hw1
  have HB := Lib.hid hb
  have G := Lib.hid fun w' (h : Below w1.heap.size w1 w') => bel_call h (lBare x w' hs)
  clear hw1 hb hs
  obtain ⟨y, hy⟩ : ∃ y, bareT x = y := ⟨_, rfl⟩
  rw [hy] at hne G
  clear hy
  have HN := Lib.hid hne
  clear hne
  have d1 := k1.at12
  have hr := Below.refl w1.heap.size w1
  have MK : Hid (∀ w', Below w1.heap.size w1 w' → Below w1.heap.size w1 w' ∧ (w'.cell? ⟨w.heap.size, 0, none⟩ = some (.int .i64 x.kind) ∧ w'.cell? ⟨w.heap.size, 1, none⟩ = some (.int .i64 x.id) ∧ w'.cell? ⟨w.heap.size, 2, none⟩ = some (.int .i64 x.n) ∧ w'.cell? ⟨w.heap.size, 3, none⟩ = some (.int .i64 x.tick) ∧ w'.cell? ⟨w.heap.size, 4, none⟩ = some (.string x.bytes) ∧ w'.cell? ⟨w.heap.size, 5, none⟩ = some (.int .i64 x.err) ∧ w'.cell? ⟨w.heap.size, 6, none⟩ = some (.int .i64 x.sT) ∧ w'.cell? ⟨w.heap.size, 7, none⟩ = some (.int .i64 x.sA) ∧ w'.cell? ⟨w.heap.size, 8, none⟩ = some (.int .i64 x.sW) ∧ w'.cell? ⟨w.heap.size, 9, none⟩ = some (.int .i64 x.sR) ∧ w'.cell? ⟨w.heap.size, 10, none⟩ = some (.int .i64 x.sN) ∧ w'.cell? ⟨w.heap.size, 11, none⟩ = some (.int .i64 x.sS))) := Lib.hid fun w' h => ⟨h, (d1 w' h).1, (d1 w' h).2.1, (d1 w' h).2.2.1, (d1 w' h).2.2.2.1, (d1 w' h).2.2.2.2.1, (d1 w' h).2.2.2.2.2.1, (d1 w' h).2.2.2.2.2.2.1, (d1 w' h).2.2.2.2.2.2.2.1, (d1 w' h).2.2.2.2.2.2.2.2.1, (d1 w' h).2.2.2.2.2.2.2.2.2.1, (d1 w' h).2.2.2.2.2.2.2.2.2.2.1, (d1 w' h).2.2.2.2.2.2.2.2.2.2.2.1⟩
  clear k1
  simp only [evC] at *
  go_enter Tryz.func44, Tryz.ntmps44
  go_upto_region 1 with fail
  rw [HW1.out]
  refine wp_region_lexH (S := (fun w' => Below w1.heap.size w1 w' ∧ (w'.cell? ⟨w.heap.size, 0, none⟩ = some (.int .i64 x.kind) ∧ w'.cell? ⟨w.heap.size, 1, none⟩ = some (.int .i64 x.id) ∧ w'.cell? ⟨w.heap.size, 2, none⟩ = some (.int .i64 x.n) ∧ w'.cell? ⟨w.heap.size, 3, none⟩ = some (.int .i64 x.tick) ∧ w'.cell? ⟨w.heap.size, 4, none⟩ = some (.string x.bytes) ∧ w'.cell? ⟨w.heap.size, 5, none⟩ = some (.int .i64 x.err) ∧ w'.cell? ⟨w.heap.size, 6, none⟩ = some (.int .i64 x.sT) ∧ w'.cell? ⟨w.heap.size, 7, none⟩ = some (.int .i64 x.sA) ∧ w'.cell? ⟨w.heap.size, 8, none⟩ = some (.int .i64 x.sW) ∧ w'.cell? ⟨w.heap.size, 9, none⟩ = some (.int .i64 x.sR) ∧ w'.cell? ⟨w.heap.size, 10, none⟩ = some (.int .i64 x.sN) ∧ w'.cell? ⟨w.heap.size, 11, none⟩ = some (.int .i64 x.sS)))) (by kernel_rfl) (by kernel_rfl) (by kernel_rfl) (MK.out _ (by (repeat' (first | exact Below.refl _ _ | assumption | exact And.left (by assumption) | apply bel_alloc | apply Below.drew)))) ?_
  clear d1 hr
  repeat (first | (refine lexH_skip (by rfl) ?_; simp only [Act.put, List.setIfInBounds_toArray, List.set_cons_zero, List.set_cons_succ]) | (refine lexH_take (v := ?_) (by rfl) ?_ ?_; rotate_left; (focus (intro w hSw; (try dsimp only at hSw); go_simp; (try with_reducible rfl))); simp only [Act.put, List.setIfInBounds_toArray, List.set_cons_zero, List.set_cons_succ]) | (refine lexH_call (by rfl) (by rfl) (fun K hK => ?_); go_simp; (first | (go_at_call 72; with_reducible (refine (G.out _ (by (repeat' (first | exact Below.refl _ _ | assumption | exact And.left (by assumption) | apply bel_alloc | apply Below.drew)))).mono ?_); rintro e wn ⟨rfl, hbn, hbm⟩)); (try go_wp2_with fail); refine hK.out _ _ (MK.out _ (by (repeat' (first | exact Below.refl _ _ | assumption | exact And.left (by assumption) | apply bel_alloc | apply Below.drew)))) (fun _ => ?_); clear hK; (try simp only [Act.put, List.setIfInBounds_toArray, List.set_cons_zero, List.set_cons_succ])))
  refine lexH_take (v := .bool true) (by rfl) ?_ ?_
  · intro w hSw
    go_simp
    intro h1 h2 h3 h4 h5 h6 h7 h8 h9 h10 h11 h12
    exact HN.out (ev_all h1 h2 h3 h4 h5 h6 h7 h8 h9 h10 h11 h12)
  simp only [Act.put, List.setIfInBounds_toArray, List.set_cons_zero, List.set_cons_succ]
  repeat (first | (refine lexH_skip (by rfl) ?_; simp only [Act.put, List.setIfInBounds_toArray, List.set_cons_zero, List.set_cons_succ]) | (refine lexH_take (v := ?_) (by rfl) ?_ ?_; rotate_left; (focus (intro w hSw; (try dsimp only at hSw); go_simp; (try with_reducible rfl))); simp only [Act.put, List.setIfInBounds_toArray, List.set_cons_zero, List.set_cons_succ]) | (refine lexH_call (by rfl) (by rfl) (fun K hK => ?_); go_simp; (first | fail); (try go_wp2_with fail); refine hK.out _ _ (MK.out _ (by (repeat' (first | exact Below.refl _ _ | assumption | exact And.left (by assumption) | apply bel_alloc | apply Below.drew)))) (fun _ => ?_); clear hK; (try simp only [Act.put, List.setIfInBounds_toArray, List.set_cons_zero, List.set_cons_succ])))
  refine lexH_done ?_
  go_wp2_with fail
  go_ret
  exact ⟨rfl, HB.out.up (by assumption)⟩
end Go.Proofs.YtmnkekepccdlcaaGreatDoor
