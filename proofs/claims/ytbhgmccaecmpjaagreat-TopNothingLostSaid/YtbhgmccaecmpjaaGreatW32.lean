/-
  prog.Copy of the scripts that are looked at.
  Conditions: the ops are those of the scripts that are looked at.
-/
import Derived.Test.YtbhgmccaecmpjaaGreatW31
namespace Go.Proofs.YtbhgmccaecmpjaaGreat
set_option linter.unusedVariables false
set_option linter.unusedSimpArgs false
open Go.RowKit

theorem OpT.oneCell (o : OpT) (a c : Nat) : ∀ u ∈ o.cells a c, u.oneCell' = true := by
  intro u hu
  obtain ⟨ao, m, cc, e⟩ := arms_form o a c
  unfold OpT.cells at hu
  rw [e] at hu
  simp only [List.mem_cons, List.not_mem_nil, or_false] at hu
  rcases hu with rfl | rfl | rfl | rfl | rfl | rfl | rfl <;> rfl
theorem ArmC.set {w : World} {ag : Nat} {o : OpT} (h : ArmC w ag o) {p : Addr} (hp : (∃ n s k, o = .expect n (some (s, k))) → ag ≠ p.block) (u : Value) : ArmC (w.setCell p u) ag o := by
  intro n s k e
  obtain ⟨l, c0, c1⟩ := h n s k e
  have hpg := hp ⟨n, s, k, e⟩
  exact ⟨by simpa using l, (cell_same (Below.heap_setCell _ _ _ _ hpg)).trans c0, (cell_same (Below.heap_setCell _ _ _ _ hpg)).trans c1⟩
set_option maxRecDepth 100000 in
set_option maxHeartbeats 8000000 in
theorem pgCopy (nm : ByteArray) (dl : Int) (jm : Nat) (b : SB2) (o0 o1 : OpT) (w : World) (hs : Scr w b o0 o1) : Calls Tryz.prog 24 #[prV nm dl jm b] w fun e w' => ∃ b', e = .returned (prV nm dl jm b') ∧ Scr w' b' o0 o1 ∧ (∀ i, b'.in_ o0 o1 i → w.heap.size ≤ i) ∧ Below w.heap.size w w' := by
  obtain ⟨ao0, m0, cc0, e0⟩ := arms_form o0 b.a0 b.c0
  obtain ⟨ao1, m1, cc1, e1⟩ := arms_form o1 b.a1 b.c1
  obtain ⟨xs, hxs⟩ : ∃ xs, xs = o0.cells b.a0 b.c0 ++ o1.cells b.a1 b.c1 := ⟨_, rfl⟩
  have F0 : Hid (∀ w', Below w.heap.size w w' → Calls Tryz.prog 43 #[.slice ao0 m0 cc0] w' fun e w'' => ∃ a' c', e = .returned (o0.arms a' c') ∧ ArmC w'' a' o0 ∧ ((∃ n p k, o0 = .expect n (some (p, k))) → w'.heap.size ≤ a') ∧ Below w'.heap.size w' w'') := Lib.hid fun w' hb => e0 ▸ clArms o0 b.a0 b.c0 w' (hs.arm0.later hb)
  have F1 : Hid (∀ w', Below w.heap.size w w' → Calls Tryz.prog 43 #[.slice ao1 m1 cc1] w' fun e w'' => ∃ a' c', e = .returned (o1.arms a' c') ∧ ArmC w'' a' o1 ∧ ((∃ n p k, o1 = .expect n (some (p, k))) → w'.heap.size ≤ a') ∧ Below w'.heap.size w' w'') := Lib.hid fun w' hb => e1 ▸ clArms o1 b.a1 b.c1 w' (hs.arm1.later hb)
  have FC : Hid (∀ w', Below w.heap.size w w' → Calls Tryz.prog 42 #[.slice (some ⟨b.g, 0, none⟩) 2 b.c] w' fun e w'' => ∃ g cap, e = .returned (.slice (some ⟨g, 0, none⟩) 2 cap) ∧ w'.heap.size ≤ g ∧ RowB w'' g xs ∧ Below w'.heap.size w' w'') := Lib.hid fun w' hb => by
    refine (cloneOp w' b.g 2 b.c xs (by rw [hxs]; rfl) (fun j u hj => (hs.later hb).row j u (by rw [← hxs]; exact hj)) (fun u hu => ?_) (by omega)).mono fun e w'' ⟨ao, cap, h1, h2, h3⟩ => ?_
    · rw [hxs] at hu
      rcases List.mem_append.1 hu with h | h
      · exact OpT.oneCell _ _ _ u h
      · exact OpT.oneCell _ _ _ u h
    · obtain ⟨g, rfl, hg, hr⟩ := RowB.of h2 (by omega)
      exact ⟨g, cap, h1, hg, hr, h3⟩
  have x4 : xs[4]? = some (.slice ao0 m0 cc0) := by rw [hxs]; unfold OpT.cells; rw [e0]; rfl
  have x11 : xs[11]? = some (.slice ao1 m1 cc1) := by rw [hxs]; unfold OpT.cells; rw [e1]; rfl
  have x4' : ∀ u, (xs.set 4 u)[11]? = some (.slice ao1 m1 cc1) := fun u => by rw [hxs]; unfold OpT.cells; rw [e1]; rfl
  have HX4 := Lib.hid (And.intro x4 (And.intro x11 x4'))
  have HX : Hid (xs = o0.cells b.a0 b.c0 ++ o1.cells b.a1 b.c1) := Lib.hid hxs
  have E0 := Lib.hid e0
  have E1 := Lib.hid e1
  clear hxs e0 e1 hs x4 x11 x4'
  unfold prV
  obtain ⟨q, hq⟩ : ∃ q, w.heap.size = q := ⟨_, rfl⟩
  obtain ⟨wA, hwA⟩ : ∃ wA, wA = w.alloc (.cells #[.string nm, .int .i64 dl, .int .i64 jm, .slice (some ⟨b.g, 0, none⟩) 2 b.c] 32) := ⟨_, rfl⟩
  have bA : Below w.heap.size w wA := by rw [hwA]; exact Below.alloc (Below.refl _ _) (Nat.le_refl _) _
  have KA : Blk wA q 32 #[.string nm, .int .i64 dl, .int .i64 jm, .slice (some ⟨b.g, 0, none⟩) 2 b.c] := by rw [hwA, ← hq]; exact Blk.new _ _ _
  have sA : wA.heap.size = q + 1 := by rw [hwA, ← hq]; simp
  obtain ⟨w1, hw1⟩ : ∃ w1, w1 = wA.alloc (.cells #[.string ⟨#[]⟩, .int .i64 0, .int .i64 0, .slice none 0 0] 32) := ⟨_, rfl⟩
  have b1 : Below w.heap.size w w1 := by rw [hw1]; exact bA.alloc (by omega) _
  have K1 : Blk w1 q 32 #[.string nm, .int .i64 dl, .int .i64 jm, .slice (some ⟨b.g, 0, none⟩) 2 b.c] := by rw [hw1]; exact KA.alloc _
  have R1 : Blk w1 (q + 1) 32 #[.string ⟨#[]⟩, .int .i64 0, .int .i64 0, .slice none 0 0] := by rw [hw1, ← sA]; exact Blk.new _ _ _
  have hw1' : w1 = (w.alloc (.cells #[.string nm, .int .i64 dl, .int .i64 jm, .slice (some ⟨b.g, 0, none⟩) 2 b.c] 32)).alloc (.cells #[.string ⟨#[]⟩, .int .i64 0, .int .i64 0, .slice none 0 0] 32) := by rw [hw1, hwA]
  have hqa : q = (w.alloc (.cells #[.string nm, .int .i64 dl, .int .i64 jm, .slice (some ⟨b.g, 0, none⟩) 2 b.c] 32)).heap.size - 1 := by rw [← hwA, sA]; omega
  have HW1 := Lib.hid hw1'
  have HQ := Lib.hid hq
  have B1 := Lib.hid b1
  have FC1 := Lib.hid (FC.out w1 b1)
  clear hwA hw1 hw1' hq bA KA sA b1 FC hqa wA
  go_enter Tryz.func24, Tryz.ntmps24
  go_upto_region 1 with fail
  rw [← HW1.out, HQ.out]
  have d1 := K1.at4
  have hr := Below.refl w1.heap.size w1
  go_wp2_with fail
  refine FC1.out.mono ?_; rintro r w2 ⟨g, cap, rfl, hg, X2, b2⟩
  have K2 := K1.later b2
  have R2 := R1.later b2
  have hqg : q ≠ g := fun e => by have := K1.lt; omega
  have hqg1 : q + 1 ≠ g := fun e => by have := R1.lt; omega
  have hlg : w.heap.size ≤ g := by have := B1.out.size; omega
  have K3 := K2.set_ 3 (.slice (some ⟨g, 0, none⟩) 2 cap)
  have R3 := R2.far (p := ⟨q, 3, none⟩) (by show q + 1 ≠ q; omega) (.slice (some ⟨g, 0, none⟩) 2 cap)
  have X3 := X2.far (p := ⟨q, 3, none⟩) (by show g ≠ q; exact Ne.symm hqg) (.slice (some ⟨g, 0, none⟩) 2 cap)
  have hlq : w.heap.size ≤ q := by have := HQ.out; omega
  have b3 : Below w.heap.size w (w2.setCell ⟨q, 3, none⟩ (.slice (some ⟨g, 0, none⟩) 2 cap)) := (B1.out.up b2).setCell (p := ⟨q, 3, none⟩) hlq _
  obtain ⟨w3, hw3⟩ : ∃ w3, w3 = w2.setCell ⟨q, 3, none⟩ (.slice (some ⟨g, 0, none⟩) 2 cap) := ⟨_, rfl⟩
  rw [← hw3] at K3 R3 X3 b3
  have K3' : Blk w3 q 32 #[.string nm, .int .i64 dl, .int .i64 jm, .slice (some ⟨g, 0, none⟩) 2 cap] := by simpa using K3
  have HW3 := Lib.hid hw3
  have B3 := Lib.hid b3
  have d2 := K2.at4
  have HL := Lib.hid (And.intro hlq hlg)
  have HN := Lib.hid (And.intro hqg hqg1)
  have hr2 := Below.refl w2.heap.size w2
  clear d1 hr hw3 b3 K1 R1 B1 K3 b2 hlq hlg hqg hqg1 X2 hg
  go_upto_region 2 with fail
  rw [← HW3.out]
  clear d2 hr2 K2 R2 HW3
  obtain ⟨w30, hw30⟩ : ∃ w30, w30 = w3 := ⟨_, rfl⟩
  rw [← hw30]
  rw [← hw30] at K3' R3 X3 B3
  have KQ0 := K3'
  have RQ0 := R3
  have XX0 := X3
  have BB0 := B3
  have HX0 := Lib.hid HX4.out.1
  clear hw30 w3 K3' R3 X3 B3
  have d1 := KQ0.at4
  have hr := Below.refl w30.heap.size w30
  have dx : ∀ w', Below w30.heap.size w30 w' → w'.cell? ⟨g, 4, none⟩ = some (.slice ao0 m0 cc0) ∧ w'.frozen? ⟨g, 4, none⟩ = false := fun w' hb => ⟨((XX0.later hb).cell 4 _ HX0.out), (XX0.later hb).frozen 4⟩
  have FK := Lib.hid (F0.out (w30.drew) BB0.out.drew)
  go_wp2_with fail
  refine wp_loop_rounds 3 ?_
  rw [rounds_succ]
  go_upto_region 5 with fail
  refine wp_region_ordL (S := fun w' => Below w30.heap.size w30 w') [0, 1, 2, 3, 4, 5, 6, 7, 8, 9, 10, 11, 12] 12 (by kernel_rfl) (by kernel_rfl) (by kernel_rfl) (by kernel_rfl) (by kernel_rfl) (by kernel_rfl) (by (repeat' (first | exact Below.refl _ _ | assumption | exact And.left (by assumption) | apply bel_alloc | apply Below.drew))) ?_
  simp only [pickL, List.filterMap_cons, List.filterMap_nil, List.getElem?_cons_zero, List.getElem?_cons_succ]
  repeat (refine ordL_take (v := ?_) (by rfl) (by rfl) ?_ ?_; rotate_left; (focus (intro w hSw; (try dsimp only at hSw); go_simp; (try with_reducible rfl))); simp only [Act.put, List.setIfInBounds_toArray, List.set_cons_zero, List.set_cons_succ])
  refine ordL_lone (by rfl) (by rfl) (fun KK hK => ?_)
  try go_simp
  refine FK.out.mono ?_; rintro r u0 ⟨p0, k0, rfl, HA0, HO0, bu⟩
  obtain ⟨bo0, bm0, bc0, be0⟩ := arms_form o0 p0 k0
  have bv : Below w30.heap.size w30 u0 := (Below.refl _ _).drew.up bu
  refine hK.out _ _ (.inr bv) ?_
  clear hK KK FK
  try simp only [Act.put, List.setIfInBounds_toArray, List.set_cons_zero, List.set_cons_succ]
  have KU0 := KQ0.later bv
  have RU0 := RQ0.later bv
  have XU0 := (XX0.later bv).set 4 (o0.arms p0 k0)
  have RV0 := RU0.far (p := ⟨g, 4, none⟩) (by show q + 1 ≠ g; exact HN.out.2) (o0.arms p0 k0)
  have KV0 := KU0.far (p := ⟨g, 4, none⟩) (by show q ≠ g; exact HN.out.1) (o0.arms p0 k0)
  have bw : Below w.heap.size w (u0.setCell ⟨g, 4, none⟩ (o0.arms p0 k0)) := (BB0.out.up bv).setCell (p := ⟨g, 4, none⟩) HL.out.2 _
  have HP0 : Hid ((∃ n p k, o0 = .expect n (some (p, k))) → w.heap.size ≤ p0) := Lib.hid fun h => Nat.le_trans (BB0.out.size) (HO0 h)
  obtain ⟨w31, hw⟩ : ∃ w31, w31 = u0.setCell ⟨g, 4, none⟩ (o0.arms p0 k0) := ⟨_, rfl⟩
  have HNG0 : Hid ((∃ n s k, o0 = .expect n (some (s, k))) → p0 ≠ g ∧ p0 ≠ q + 1) := Lib.hid fun h => by have h1 := HO0 h; have h2 := XX0.lt; have h4 := RQ0.lt; have h3 : w30.drew.heap.size = w30.heap.size := rfl; omega
  have HAW0 : Hid (ArmC w31 p0 o0) := Lib.hid (by rw [hw]; exact HA0.set (fun h => (HNG0.out h).1) _)
  have BV0 := Lib.hid bv
  rw [← hw] at XU0 RV0 KV0 bw
  have HWW0 := Lib.hid hw
  have BB1 := Lib.hid bw
  rw [be0] at hw
  repeat (refine ordL_take (v := ?_) (by rfl) (by rfl) ?_ ?_; rotate_left; (focus (intro w hSw; (try dsimp only at hSw); go_simp; (try with_reducible rfl))); simp only [Act.put, List.setIfInBounds_toArray, List.set_cons_zero, List.set_cons_succ])
  refine ordL_lone (by rfl) (by rfl) (fun KK hK => ?_)
  try go_simp
  refine hK.out _ _ (.inl (by trivial)) ?_
  clear hK KK
  try simp only [Act.put, List.setIfInBounds_toArray, List.set_cons_zero, List.set_cons_succ]
  refine ordL_done ?_
  rw [← hw]
  clear hw d1 dx hr bv bw KU0 RU0 bu
  have KQ1 := KV0
  have RQ1 := RV0
  have XX1 := XU0
  have HX1 := Lib.hid (HX4.out.2.2 (o0.arms p0 k0))
  clear KV0 RV0 XU0 KQ0 RQ0 XX0
  go_wp2_with fail
  have d1 := KQ1.at4
  have hr := Below.refl w31.heap.size w31
  have dx : ∀ w', Below w31.heap.size w31 w' → w'.cell? ⟨g, 11, none⟩ = some (.slice ao1 m1 cc1) ∧ w'.frozen? ⟨g, 11, none⟩ = false := fun w' hb => ⟨((XX1.later hb).cell 11 _ HX1.out), (XX1.later hb).frozen 11⟩
  have FK := Lib.hid (F1.out (w31.drew) BB1.out.drew)
  rw [rounds_succ]
  go_upto_region 5 with fail
  refine wp_region_ordL (S := fun w' => Below w31.heap.size w31 w') [0, 1, 2, 3, 4, 5, 6, 7, 8, 9, 10, 11, 12] 12 (by kernel_rfl) (by kernel_rfl) (by kernel_rfl) (by kernel_rfl) (by kernel_rfl) (by kernel_rfl) (by (repeat' (first | exact Below.refl _ _ | assumption | exact And.left (by assumption) | apply bel_alloc | apply Below.drew))) ?_
  simp only [pickL, List.filterMap_cons, List.filterMap_nil, List.getElem?_cons_zero, List.getElem?_cons_succ]
  repeat (refine ordL_take (v := ?_) (by rfl) (by rfl) ?_ ?_; rotate_left; (focus (intro w hSw; (try dsimp only at hSw); go_simp; (try with_reducible rfl))); simp only [Act.put, List.setIfInBounds_toArray, List.set_cons_zero, List.set_cons_succ])
  refine ordL_lone (by rfl) (by rfl) (fun KK hK => ?_)
  try go_simp
  refine FK.out.mono ?_; rintro r u1 ⟨p1, k1, rfl, HA1, HO1, bu⟩
  obtain ⟨bo1, bm1, bc1, be1⟩ := arms_form o1 p1 k1
  have bv : Below w31.heap.size w31 u1 := (Below.refl _ _).drew.up bu
  refine hK.out _ _ (.inr bv) ?_
  clear hK KK FK
  try simp only [Act.put, List.setIfInBounds_toArray, List.set_cons_zero, List.set_cons_succ]
  have KU1 := KQ1.later bv
  have RU1 := RQ1.later bv
  have XU1 := (XX1.later bv).set 11 (o1.arms p1 k1)
  have RV1 := RU1.far (p := ⟨g, 11, none⟩) (by show q + 1 ≠ g; exact HN.out.2) (o1.arms p1 k1)
  have KV1 := KU1.far (p := ⟨g, 11, none⟩) (by show q ≠ g; exact HN.out.1) (o1.arms p1 k1)
  have bw : Below w.heap.size w (u1.setCell ⟨g, 11, none⟩ (o1.arms p1 k1)) := (BB1.out.up bv).setCell (p := ⟨g, 11, none⟩) HL.out.2 _
  have HP1 : Hid ((∃ n p k, o1 = .expect n (some (p, k))) → w.heap.size ≤ p1) := Lib.hid fun h => Nat.le_trans (BB1.out.size) (HO1 h)
  obtain ⟨w32, hw⟩ : ∃ w32, w32 = u1.setCell ⟨g, 11, none⟩ (o1.arms p1 k1) := ⟨_, rfl⟩
  have HNG1 : Hid ((∃ n s k, o1 = .expect n (some (s, k))) → p1 ≠ g ∧ p1 ≠ q + 1) := Lib.hid fun h => by have h1 := HO1 h; have h2 := XX1.lt; have h4 := RQ1.lt; have h3 : w31.drew.heap.size = w31.heap.size := rfl; omega
  have HAW1 : Hid (ArmC w32 p1 o1) := Lib.hid (by rw [hw]; exact HA1.set (fun h => (HNG1.out h).1) _)
  have BV1 := Lib.hid bv
  rw [← hw] at XU1 RV1 KV1 bw
  have HWW1 := Lib.hid hw
  have BB2 := Lib.hid bw
  rw [be1] at hw
  repeat (refine ordL_take (v := ?_) (by rfl) (by rfl) ?_ ?_; rotate_left; (focus (intro w hSw; (try dsimp only at hSw); go_simp; (try with_reducible rfl))); simp only [Act.put, List.setIfInBounds_toArray, List.set_cons_zero, List.set_cons_succ])
  refine ordL_lone (by rfl) (by rfl) (fun KK hK => ?_)
  try go_simp
  refine hK.out _ _ (.inl (by trivial)) ?_
  clear hK KK
  try simp only [Act.put, List.setIfInBounds_toArray, List.set_cons_zero, List.set_cons_succ]
  refine ordL_done ?_
  rw [← hw]
  clear hw d1 dx hr bv bw KU1 RU1 bu
  have hxx : (xs.set 4 (o0.arms p0 k0)).set 11 (o1.arms p1 k1) = o0.cells p0 k0 ++ o1.cells p1 k1 := by rw [HX.out]; rfl
  rw [hxx] at XU1
  have dq := KV1.at4
  have dr := RV1.at4
  have hr := Below.refl w32.heap.size w32
  clear KQ1 RQ1 XX1
  go_wp2_with fail
  rw [rounds_succ]
  go_wp2_with fail
  (try simp only [Exit.inBlock, Exit.then])
  refine bodyPost_ret (v := .agg #[.string nm, .int .i64 dl, .int .i64 jm, .slice (some ⟨g, 0, none⟩) 2 cap]) ?_ rfl ?_
  · rw [results_cell_one rfl]
    go_simp
  · have hne : q + 1 ≠ g := HN.out.2
    have hq1 : w.heap.size ≤ q + 1 := by have := HL.out.1; omega
    have hA0 : ArmC w32 p0 o0 := by
      have h := HWW1.out
      rw [h]
      exact (HAW0.out.later BV1.out).set (fun h => (HNG0.out h).1) _
    have hA1 := HAW1.out
    have X := ((((XU1.far (p := ⟨q + 1, 0, none⟩) (Ne.symm hne) (.string nm)).far (p := ⟨q + 1, 1, none⟩) (Ne.symm hne) (.int .i64 dl)).far (p := ⟨q + 1, 2, none⟩) (Ne.symm hne) (.int .i64 jm)).far (p := ⟨q + 1, 3, none⟩) (Ne.symm hne) (.slice (some ⟨g, 0, none⟩) 2 cap))
    refine ⟨⟨g, cap, p0, k0, p1, k1⟩, rfl, ⟨fun i v e => X.cell i v e, X.lt, ?_, ?_⟩, ?_, ?_⟩
    · exact (((hA0.set (p := ⟨q + 1, 0, none⟩) (fun h => (HNG0.out h).2) _).set (p := ⟨q + 1, 1, none⟩) (fun h => (HNG0.out h).2) _).set (p := ⟨q + 1, 2, none⟩) (fun h => (HNG0.out h).2) _).set (p := ⟨q + 1, 3, none⟩) (fun h => (HNG0.out h).2) _
    · exact (((hA1.set (p := ⟨q + 1, 0, none⟩) (fun h => (HNG1.out h).2) _).set (p := ⟨q + 1, 1, none⟩) (fun h => (HNG1.out h).2) _).set (p := ⟨q + 1, 2, none⟩) (fun h => (HNG1.out h).2) _).set (p := ⟨q + 1, 3, none⟩) (fun h => (HNG1.out h).2) _
    · rintro i (rfl | ⟨⟨n, s, k, e⟩, rfl⟩ | ⟨⟨n, s, k, e⟩, rfl⟩)
      · exact HL.out.2
      · exact HP0.out ⟨n, s, k, e⟩
      · exact HP1.out ⟨n, s, k, e⟩
    · exact below_set4 BB2.out hq1 _ _ _ _
end Go.Proofs.YtbhgmccaecmpjaaGreat
