/-
  play.Events; reparteetop.setup, asks, lives.
  Conditions: none.
-/
import Derived.Test.YtbhgmccaecmpjaaGreatW47
import Derived.Test.YtbhgmccaecmpjaaGreatW50
namespace Go.Proofs.YtbhgmccaecmpjaaGreat
set_option linter.unusedVariables false
set_option linter.unusedSimpArgs false
open Go.RowKit Go.ChangeMaps

set_option maxRecDepth 100000 in
set_option maxHeartbeats 8000000 in
theorem plEventsX {w : World} {c : ScT} (hok : c.ok) (hcf : c.fit) (nm : ByteArray) (g0 c0 gr cr N : Nat) (sb : SB2) (hnm : nm = c.nm) (h0 : g0 < w.heap.size) (hg : w.cell? ⟨g0, 0, none⟩ = some (.string nm) ∧ w.cell? ⟨g0, 1, none⟩ = some (.int .i64 c.dl) ∧ w.cell? ⟨g0, 2, none⟩ = some (.int .i64 c.jm) ∧ w.cell? ⟨g0, 3, none⟩ = some (.slice (some ⟨sb.g, 0, none⟩) 2 sb.c)) (hs : Scr w sb c.o0 c.o1)
    (Rs : List (RdT × RB)) (hR : RndsAt w gr Rs) (hN : N = Rs.length) (hlen : Rs.length ≤ 500) (hch : ChainOk c (Rs.map (·.1)) E0) :
    Calls Tryz.prog 8 #[.agg #[.int .i64 c.l, .int .i64 c.r, .int .i64 c.n, .int .i64 c.o, .int .i64 c.q, .int .i64 c.v], .slice (some ⟨g0, 0, none⟩) 1 c0, .slice (some ⟨gr, 0, none⟩) N cr] w fun e w' => ∃ ao m cap, e = .returned (.tuple #[.slice ao m cap, .int .i64 0]) ∧ Hid (∃ evs, m = evs.length ∧ ORow 69 12 w.heap.size w' (.slice ao evs.length cap) evs.length (evAll evs) ∧ RoundsTo c (Rs.map (·.1)) E0 evs) ∧ Below w.heap.size w w' := by
  obtain ⟨q, hq⟩ : ∃ q, w.heap.size = q := ⟨_, rfl⟩
  obtain ⟨w1, hw1⟩ : ∃ w1, w1 = w.alloc (.cells #[.int .i64 c.l, .int .i64 c.r, .int .i64 c.n, .int .i64 c.o, .int .i64 c.q, .int .i64 c.v] 23) := ⟨_, rfl⟩
  have b1 : Below w.heap.size w w1 := by rw [hw1]; exact Below.alloc (Below.refl _ _) (Nat.le_refl _) _
  have K1 : Blk w1 q 23 #[.int .i64 c.l, .int .i64 c.r, .int .i64 c.n, .int .i64 c.o, .int .i64 c.q, .int .i64 c.v] := by rw [hw1, ← hq]; exact Blk.new _ _ _
  have FE : Hid (∀ w', Below w1.heap.size w1 w' → Calls Tryz.prog 13 #[.agg #[.int .i64 c.l, .int .i64 c.r, .int .i64 c.n, .int .i64 c.o, .int .i64 c.q, .int .i64 c.v], .slice (some ⟨g0, 0, none⟩) 1 c0, .slice (some ⟨gr, 0, none⟩) N cr] w' fun e w'' => ∃ ao m cap, e = .returned (.tuple #[.slice ao m cap, .int .i64 0]) ∧ Hid (∃ evs, m = evs.length ∧ ORow 69 12 w.heap.size w'' (.slice ao evs.length cap) evs.length (evAll evs) ∧ RoundsTo c (Rs.map (·.1)) E0 evs) ∧ Below w'.heap.size w' w'') := Lib.hid fun w' hb => by
    have hbb := b1.up hb
    have e := hbb.block g0 h0
    have := plEvents (w := w') (c0 := c0) (cr := cr) hok hcf nm g0 gr sb hnm (Nat.lt_of_lt_of_le h0 hbb.size) ⟨(cell_same e).trans hg.1, (cell_same e).trans hg.2.1, (cell_same e).trans hg.2.2.1, (cell_same e).trans hg.2.2.2⟩ (hs.later hbb) Rs (hR.later hbb) hlen hch
    rw [← hN] at this
    exact this.mono fun e w'' ⟨ao, cap, evs, h1, h2, h3, h4, h5⟩ => ⟨ao, evs.length, cap, h1, Lib.hid ⟨evs, rfl, orow_lower h2 hbb.size, h3⟩, h5⟩
  have HW1 := Lib.hid hw1
  have HQ := Lib.hid hq
  have B1 := Lib.hid b1
  clear hw1 hq b1 hok hcf hnm h0 hg hs hR hN hlen hch
  go_enter Tryz.func8, Tryz.ntmps8
  go_upto_region 1 with fail
  rw [← HW1.out, HQ.out]
  have d1 := K1.at6
  have hr := Below.refl w1.heap.size w1
  go_wp2_with fail
  refine (FE.out _ (by (repeat' (first | exact Below.refl _ _ | assumption | exact And.left (by assumption) | apply bel_alloc | apply Below.drew)))).mono ?_; rintro r w2 ⟨ao, m, cap, rfl, HV, b2⟩
  have b2' : Below w1.heap.size w1 w2 := by first | exact b2 | exact (Below.refl _ _).drew.up b2
  clear d1 hr FE
  go_wp2_with fail
  go_ret2
  exact ⟨ao, m, cap, rfl, HV, B1.out.up b2'⟩
set_option maxRecDepth 100000 in
set_option maxHeartbeats 8000000 in
theorem tpSetup (w : World) : Calls Tryz.prog 10 #[] w fun e w' => e = .returned (.agg #[.int .i64 2, .int .i64 4, .int .i64 16, .int .i64 2, .int .i64 6, .int .i64 1]) ∧ Below w.heap.size w w' := by
  obtain ⟨q, hq⟩ : ∃ q, w.heap.size = q := ⟨_, rfl⟩
  obtain ⟨w1, hw1⟩ : ∃ w1, w1 = w.alloc (.cells #[.int .i64 2, .int .i64 4, .int .i64 16, .int .i64 2, .int .i64 6, .int .i64 1] 23) := ⟨_, rfl⟩
  have b1 : Below w.heap.size w w1 := by rw [hw1]; exact Below.alloc (Below.refl _ _) (Nat.le_refl _) _
  have K1 : Blk w1 q 23 #[.int .i64 2, .int .i64 4, .int .i64 16, .int .i64 2, .int .i64 6, .int .i64 1] := by rw [hw1, ← hq]; exact Blk.new _ _ _
  have HW1 := Lib.hid hw1
  have HQ := Lib.hid hq
  clear hw1 hq
  go_enter Tryz.func10, Tryz.ntmps10
  go_wp2_with fail
  (try simp only [Exit.inBlock, Exit.then])
  rw [← HW1.out, HQ.out]
  have d1 := K1.at6
  have hr := Below.refl w1.heap.size w1
  refine bodyPost_ret (v := .agg #[.int .i64 2, .int .i64 4, .int .i64 16, .int .i64 2, .int .i64 6, .int .i64 1]) ?_ rfl ⟨rfl, by rw [← HQ.out]; exact b1⟩
  rw [results_cell_one rfl]
  go_simp
set_option maxRecDepth 100000 in
set_option maxHeartbeats 8000000 in
theorem tpAsks (w : World) : Calls Tryz.prog 11 #[] w fun e w' => ∃ sb : SB2, e = .returned (.agg #[.string askB, .int .i64 40, .int .i64 2, .slice (some ⟨sb.g, 0, none⟩) 2 sb.c]) ∧ Scr w' sb cL.o0 cL.o1 ∧ Below w.heap.size w w' := by
  obtain ⟨wa, hwa⟩ : ∃ wa, wa = w.alloc (.cells #[.string ⟨#[97, 115, 107]⟩, .int .i64 40, .int .i64 2, .slice (some ⟨w.heap.size + 1 + 1, 0, none⟩) 2 2] 32) := ⟨_, rfl⟩
  have Ka : Blk wa w.heap.size 32 #[.string ⟨#[97, 115, 107]⟩, .int .i64 40, .int .i64 2, .slice (some ⟨w.heap.size + 1 + 1, 0, none⟩) 2 2] := by rw [hwa]; exact Blk.new _ _ _
  have ba : Below w.heap.size w wa := by rw [hwa]; exact Below.alloc (Below.refl _ _) (Nat.le_refl _) _
  have sa : wa.heap.size = w.heap.size + 1 := by rw [hwa]; simp
  obtain ⟨wb, hwb⟩ : ∃ wb, wb = wa.alloc (.cells #[.string ⟨#[111, 107]⟩, .int .i64 2] 65) := ⟨_, rfl⟩
  have Kb : Blk wb (w.heap.size + 1) 65 #[.string ⟨#[111, 107]⟩, .int .i64 2] := by rw [hwb, ← sa]; exact Blk.new _ _ _
  have bb : Below wa.heap.size wa wb := by rw [hwb]; exact Below.alloc (Below.refl _ _) (Nat.le_refl _) _
  have sb : wb.heap.size = w.heap.size + 1 + 1 := by rw [hwb]; simp [sa]
  obtain ⟨wc, hwc⟩ : ∃ wc, wc = wb.alloc (.cells #[.int .i64 1, .string ⟨#[104, 105]⟩, .int .i64 0, .int .i64 0, .slice none 0 0, .int .i64 0, .int .i64 0, .int .i64 2, .string ⟨#[]⟩, .int .i64 9, .int .i64 0, .slice (some ⟨w.heap.size + 1, 0, none⟩) 1 1, .int .i64 (-1), .int .i64 (-1)] 29) := ⟨_, rfl⟩
  have Kc : Blk wc (w.heap.size + 1 + 1) 29 #[.int .i64 1, .string ⟨#[104, 105]⟩, .int .i64 0, .int .i64 0, .slice none 0 0, .int .i64 0, .int .i64 0, .int .i64 2, .string ⟨#[]⟩, .int .i64 9, .int .i64 0, .slice (some ⟨w.heap.size + 1, 0, none⟩) 1 1, .int .i64 (-1), .int .i64 (-1)] := by rw [hwc, ← sb]; exact Blk.new _ _ _
  have bc : Below wb.heap.size wb wc := by rw [hwc]; exact Below.alloc (Below.refl _ _) (Nat.le_refl _) _
  have hwc' : wc = ((w.alloc (.cells #[.string ⟨#[97, 115, 107]⟩, .int .i64 40, .int .i64 2, .slice (some ⟨w.heap.size + 1 + 1, 0, none⟩) 2 2] 32)).alloc (.cells #[.string ⟨#[111, 107]⟩, .int .i64 2] 65)).alloc (.cells #[.int .i64 1, .string ⟨#[104, 105]⟩, .int .i64 0, .int .i64 0, .slice none 0 0, .int .i64 0, .int .i64 0, .int .i64 2, .string ⟨#[]⟩, .int .i64 9, .int .i64 0, .slice (some ⟨w.heap.size + 1, 0, none⟩) 1 1, .int .i64 (-1), .int .i64 (-1)] 29) := by rw [hwc, hwb, hwa]
  have HW := Lib.hid hwc'
  have B := Lib.hid ((ba.up bb).up bc)
  have Ka := (Ka.later bb).later bc
  have Kb := Lib.hid (Kb.later bc)
  have Kc := Lib.hid Kc
  clear hwc' hwc hwb hwa ba bb bc sa sb
  go_enter Tryz.func11, Tryz.ntmps11
  go_wp2_with fail
  (try simp only [Exit.inBlock, Exit.then])
  rw [← HW.out]
  have d1 := Ka.at4
  have hr := Below.refl wc.heap.size wc
  refine bodyPost_ret (v := .agg #[.string ⟨#[97, 115, 107]⟩, .int .i64 40, .int .i64 2, .slice (some ⟨w.heap.size + 1 + 1, 0, none⟩) 2 2]) ?_ rfl ⟨⟨w.heap.size + 1 + 1, 2, 0, 0, w.heap.size + 1, 1⟩, rfl, ⟨fun i v hv => ?_, Kc.out.lt, fun n p k e => (by cases e), fun n p k e => ?_⟩, B.out⟩
  · rw [results_cell_one rfl]
    go_simp
  · exact (Kc.out.cell i).trans (by
      have e : ((cL.o0.cells 0 0 ++ cL.o1.cells (w.heap.size + 1) 1) : List Value).toArray = #[.int .i64 1, .string ⟨#[104, 105]⟩, .int .i64 0, .int .i64 0, .slice none 0 0, .int .i64 0, .int .i64 0, .int .i64 2, .string ⟨#[]⟩, .int .i64 9, .int .i64 0, .slice (some ⟨w.heap.size + 1, 0, none⟩) 1 1, .int .i64 (-1), .int .i64 (-1)] := by rfl
      rw [← e]
      simpa using hv)
  · have e : some (okB, 2) = some (p, k) := by injection e
    injection e with e
    injection e with e1 e2
    subst e1 e2
    exact ⟨Kb.out.lt, Kb.out.cell 0, Kb.out.cell 1⟩
set_option maxRecDepth 100000 in
set_option maxHeartbeats 8000000 in
theorem tpLives (w : World) : Calls Tryz.prog 6 #[] w fun e w' => e = .returned (.bool true) ∧ Below w.heap.size w w' := by
  have FS := Lib.hid (tpSetup w)
  have FA := Lib.hid tpAsks
  go_enter Tryz.func6, Tryz.ntmps6
  go_wp2_with fail
  refine FS.out.mono ?_; rintro r w1 ⟨rfl, b1⟩
  have b1' : Below w.heap.size w w1 := by first | exact b1 | exact (Below.refl _ _).drew.up b1
  have B1 := Lib.hid b1'
  clear b1 b1' FS
  go_wp2_with fail
  refine (FA.out _).mono ?_; rintro r w2 ⟨sb, rfl, hs, b2⟩
  have b2' : Below w1.heap.size w1 w2 := by first | exact b2 | exact (Below.refl _ _).drew.up b2
  have B2 := Lib.hid (B1.out.up b2')
  have HS := Lib.hid hs
  clear b2 b2' hs B1 FA
  obtain ⟨v0, hv0⟩ : ∃ v0, v0 = w2.alloc (.cells #[.string askB, .int .i64 40, .int .i64 2, .slice (some ⟨sb.g, 0, none⟩) 2 sb.c] 32) := ⟨_, rfl⟩
  have K0 : Blk v0 (w2.heap.size) 32 #[.string askB, .int .i64 40, .int .i64 2, .slice (some ⟨sb.g, 0, none⟩) 2 sb.c] := by rw [hv0]; exact Blk.new _ _ _
  have c0 : Below w2.heap.size w2 v0 := by rw [hv0]; exact Below.alloc (Below.refl _ _) (Nat.le_refl _) _
  have s0 : v0.heap.size = w2.heap.size + 1 := by rw [hv0]; simp
  obtain ⟨v1, hv1⟩ : ∃ v1, v1 = v0.alloc (.cells #[.int .i64 0] 3) := ⟨_, rfl⟩
  have K1 : Blk v1 (w2.heap.size + 1) 3 #[.int .i64 0] := by rw [hv1, ← s0]; exact Blk.new _ _ _
  have c1 : Below v0.heap.size v0 v1 := by rw [hv1]; exact Below.alloc (Below.refl _ _) (Nat.le_refl _) _
  have s1 : v1.heap.size = w2.heap.size + 1 + 1 := by rw [hv1]; simp [s0]
  obtain ⟨v2, hv2⟩ : ∃ v2, v2 = v1.alloc (.cells #[.int .i64 0, .string ⟨#[111, 107]⟩, .bool false] 35) := ⟨_, rfl⟩
  have K2 : Blk v2 (w2.heap.size + 1 + 1) 35 #[.int .i64 0, .string ⟨#[111, 107]⟩, .bool false] := by rw [hv2, ← s1]; exact Blk.new _ _ _
  have c2 : Below v1.heap.size v1 v2 := by rw [hv2]; exact Below.alloc (Below.refl _ _) (Nat.le_refl _) _
  have s2 : v2.heap.size = w2.heap.size + 1 + 1 + 1 := by rw [hv2]; simp [s1]
  obtain ⟨v3, hv3⟩ : ∃ v3, v3 = v2.alloc (.cells #[.int .i64 0, .bool true, .bool true, .int .i64 2] 42) := ⟨_, rfl⟩
  have K3 : Blk v3 (w2.heap.size + 1 + 1 + 1) 42 #[.int .i64 0, .bool true, .bool true, .int .i64 2] := by rw [hv3, ← s2]; exact Blk.new _ _ _
  have c3 : Below v2.heap.size v2 v3 := by rw [hv3]; exact Below.alloc (Below.refl _ _) (Nat.le_refl _) _
  have s3 : v3.heap.size = w2.heap.size + 1 + 1 + 1 + 1 := by rw [hv3]; simp [s2]
  obtain ⟨v4, hv4⟩ : ∃ v4, v4 = v3.alloc (.cells #[.int .i64 1, .slice (some ⟨w2.heap.size + 1, 0, none⟩) 1 1, .slice none 0 0, .slice none 0 0, .int .i64 0, .bool false, .int .i64 1, .slice none 0 0, .slice (some ⟨w2.heap.size + 1 + 1, 0, none⟩) 1 1, .slice (some ⟨w2.heap.size + 1 + 1 + 1, 0, none⟩) 1 1, .int .i64 0, .bool false, .int .i64 1, .slice none 0 0, .slice none 0 0, .slice none 0 0, .int .i64 0, .bool false, .int .i64 1, .slice none 0 0, .slice none 0 0, .slice none 0 0, .int .i64 0, .bool false] 39) := ⟨_, rfl⟩
  have K4 : Blk v4 (w2.heap.size + 1 + 1 + 1 + 1) 39 #[.int .i64 1, .slice (some ⟨w2.heap.size + 1, 0, none⟩) 1 1, .slice none 0 0, .slice none 0 0, .int .i64 0, .bool false, .int .i64 1, .slice none 0 0, .slice (some ⟨w2.heap.size + 1 + 1, 0, none⟩) 1 1, .slice (some ⟨w2.heap.size + 1 + 1 + 1, 0, none⟩) 1 1, .int .i64 0, .bool false, .int .i64 1, .slice none 0 0, .slice none 0 0, .slice none 0 0, .int .i64 0, .bool false, .int .i64 1, .slice none 0 0, .slice none 0 0, .slice none 0 0, .int .i64 0, .bool false] := by rw [hv4, ← s3]; exact Blk.new _ _ _
  have c4 : Below v3.heap.size v3 v4 := by rw [hv4]; exact Below.alloc (Below.refl _ _) (Nat.le_refl _) _
  have s4 : v4.heap.size = w2.heap.size + 1 + 1 + 1 + 1 + 1 := by rw [hv4]; simp [s3]
  have hv : v4 = (((((w2.alloc (.cells #[.string askB, .int .i64 40, .int .i64 2, .slice (some ⟨sb.g, 0, none⟩) 2 sb.c] 32)).alloc (.cells #[.int .i64 0] 3)).alloc (.cells #[.int .i64 0, .string ⟨#[111, 107]⟩, .bool false] 35)).alloc (.cells #[.int .i64 0, .bool true, .bool true, .int .i64 2] 42)).alloc (.cells #[.int .i64 1, .slice (some ⟨w2.heap.size + 1, 0, none⟩) 1 1, .slice none 0 0, .slice none 0 0, .int .i64 0, .bool false, .int .i64 1, .slice none 0 0, .slice (some ⟨w2.heap.size + 1 + 1, 0, none⟩) 1 1, .slice (some ⟨w2.heap.size + 1 + 1 + 1, 0, none⟩) 1 1, .int .i64 0, .bool false, .int .i64 1, .slice none 0 0, .slice none 0 0, .slice none 0 0, .int .i64 0, .bool false, .int .i64 1, .slice none 0 0, .slice none 0 0, .slice none 0 0, .int .i64 0, .bool false] 39)) := by rw [hv4, hv3, hv2, hv1, hv0]
  have K0 := (((K0.later c1).later c2).later c3).later c4
  have K1 := ((K1.later c2).later c3).later c4
  have K2 := (K2.later c3).later c4
  have K3 := K3.later c4
  have cc := (((c0.up c1).up c2).up c3).up c4
  have HV4 := Lib.hid hv
  have HR : RndsAt v4 (w2.heap.size + 1 + 1 + 1 + 1) [(LA, ⟨w2.heap.size + 1, 1, 0, 0, 0, 0⟩), (LB, ⟨0, 0, w2.heap.size + 1 + 1, 1, w2.heap.size + 1 + 1 + 1, 1⟩), (LC, ⟨0, 0, 0, 0, 0, 0⟩), (LC, ⟨0, 0, 0, 0, 0, 0⟩)] := by
    refine ⟨K4.lt, fun i R rb h => ?_, fun i R rb h => ?_⟩
    · match i, h with
      | 0, h => cases h; exact ⟨K4.cell 0, K4.cell 1, K4.cell 2, K4.cell 3, K4.cell 4, K4.cell 5⟩
      | 1, h => cases h; exact ⟨K4.cell 6, K4.cell 7, K4.cell 8, K4.cell 9, K4.cell 10, K4.cell 11⟩
      | 2, h => cases h; exact ⟨K4.cell 12, K4.cell 13, K4.cell 14, K4.cell 15, K4.cell 16, K4.cell 17⟩
      | 3, h => cases h; exact ⟨K4.cell 18, K4.cell 19, K4.cell 20, K4.cell 21, K4.cell 22, K4.cell 23⟩
      | n + 4, h => simp at h
    · match i, h with
      | 0, h => cases h; exact ⟨fun _ => ⟨K1.lt, K1.cell 0⟩, fun u e => (by cases e), fun b k e => (by cases e)⟩
      | 1, h => cases h; exact ⟨fun e => (by cases e), fun u e => (by cases e; exact ⟨K2.lt, K2.cell 0, K2.cell 1, K2.cell 2⟩), fun b k e => (by cases e; exact ⟨K3.lt, K3.cell 0, K3.cell 1, K3.cell 2, K3.cell 3⟩)⟩
      | 2, h => cases h; exact ⟨fun e => (by cases e), fun u e => (by cases e), fun b k e => (by cases e)⟩
      | 3, h => cases h; exact ⟨fun e => (by cases e), fun u e => (by cases e), fun b k e => (by cases e)⟩
      | n + 4, h => simp at h
  have FE := Lib.hid (plEventsX (w := v4) (c := cL) cL_ok cL_fit askB w2.heap.size 1 (w2.heap.size + 1 + 1 + 1 + 1) 4 4 sb rfl K0.lt ⟨K0.cell 0, K0.cell 1, K0.cell 2, K0.cell 3⟩ (HS.out.later cc) _ HR rfl (by show 4 ≤ 500; decide) lives_chain)
  have B7 := Lib.hid (B2.out.up cc)
  clear HR K0 K1 K2 K3 K4 c0 c1 c2 c3 c4 cc s0 s1 s2 s3 s4 hv hv0 hv1 hv2 hv3 hv4 HS B2
  go_wp2_with fail
  rw [← HV4.out]
  refine FE.out.mono ?_; rintro r w8 ⟨ao, m, cap, rfl, HV, b8⟩
  have b8' : Below v4.heap.size v4 w8 := by first | exact b8 | exact (Below.refl _ _).drew.up b8
  have B8 := Lib.hid (B7.out.up b8')
  clear b8 b8' FE HV4 B7
  obtain ⟨evs, hm, ho, hR⟩ := HV.out
  obtain ⟨l1, l2, l3, l4⟩ := lives_evs hR
  obtain ⟨g, hg, _, _⟩ := orow_cell ho 0 (by rw [evAll_length, l1]; decide)
  subst hg
  have he := EvsAt.of ho (by omega)
  have FN := Lib.hid (plEnds (w := w8) g m cap evs he hm (fun v hv => ⟨(l2 v hv).1, (l2 v hv).2.1⟩) (fun v hv => (l2 v hv).2.2) l3 (by omega))
  rw [l4] at FN
  clear HV hm ho hR l1 l2 l3 l4 he
  go_wp2_with fail
  refine FN.out.mono ?_; rintro r w9 ⟨mm, rfl, hM, b9⟩
  have b9' : Below w8.heap.size w8 w9 := by first | exact b9 | exact (Below.refl _ _).drew.up b9
  have B9 := Lib.hid (B8.out.up b9')
  have HL : ∀ w', Below w9.heap.size w9 w' → (Builtin.len_ #[57] 3 #[.map (some mm)]).run Tryz.prog w' = .ok (.int .i64 1) w' := fun w' hb => by
    have := (hM.later hb).len
    rw [mapD_size] at this
    simpa using this
  have hM0 := hM
  obtain ⟨nn, hnn, hown⟩ := hM
  obtain ⟨c, hrun, hat, hwc⟩ := hown.lookup_int int_key Tryz.underlying57 Tryz.underlying3 (zero_int w9) (key := .int .i64 0) (kl := .int .i64 0) key0
  have hc : c = 1 := (lit_inj ((atKey_v 1).symm.trans hat)).symm
  subst hc
  clear hown hat hwc b9 b9' FN B8
  have hr := Below.refl w9.heap.size w9
  go_wp2_with fail
  go_ret
  exact ⟨rfl, B9.out⟩
end Go.Proofs.YtbhgmccaecmpjaaGreat

namespace Go.Proofs.YtbhgmccaecmpjaaGreat
set_option linter.unusedVariables false
set_option linter.unusedSimpArgs false
open Go.RowKit

theorem orow_cap {e : TypeId} {k B n m cap : Nat} {w : World} {ao : Option Addr} {xs : List Value} (h : ORow e k B w (.slice ao m cap) n xs) (h0 : 0 < n) : n ≤ cap := by
  rcases h.2 with ⟨hv, hn⟩ | ⟨g, cap', cur, hv, _, _, h1, _⟩
  · omega
  · cases hv; exact h1
def aB : ByteArray := ⟨#[97]⟩
theorem aB_name : NameS aB := ⟨by decide, fun i h => by
    have h : i < 1 := h
    match i, h with
    | 0, _ => exact (by decide : 97 ≤ 97 ∧ 97 ≤ 122)⟩
/-- What a dialogue has read, and how it stands: read rd, standing st, of what was offered u, in a window of n. -/
def NLPost (n : Nat) (u rd : ByteArray) (st : Int) : Prop := rd.size ≤ u.size ∧ u.extract 0 rd.size = rd ∧ ((n < u.size ∧ st = 4 ∧ n < rd.size) ∨ (u.size ≤ n ∧ st = 0 ∧ rd = u))
theorem nlPost {n : Nat} {u : ByteArray} {l : List UInt8} {st : Int} (h : (n < u.size ∧ st = 4 ∧ n < l.length ∧ ∃ z, l ++ z = u.data.toList) ∨ (u.size ≤ n ∧ st = 0 ∧ l = u.data.toList)) : NLPost n u ⟨l.toArray⟩ st := by
  have hs : u.size = u.data.toList.length := rfl
  have ex : ∀ z, l ++ z = u.data.toList → u.extract 0 (ByteArray.mk l.toArray).size = ⟨l.toArray⟩ := fun z hz => by
    apply ByteArray.ext
    rw [ByteArray.data_extract, ← Array.toList_inj, Array.toList_extract, ← hz]
    show (List.extract (l ++ z) 0 l.toArray.size) = l
    rw [List.extract_eq_take_drop]
    simp
  rcases h with ⟨h1, h2, h3, z, hz⟩ | ⟨h1, h2, h3⟩
  · refine ⟨?_, ex z hz, .inl ⟨h1, h2, h3⟩⟩
    rw [hs, ← hz, List.length_append]
    show l.toArray.size ≤ _
    simp
  · refine ⟨?_, ex [] (by rw [h3]; simp), .inr ⟨h1, h2, ?_⟩⟩
    · rw [hs, ← h3]
      exact Nat.le_refl _
    · apply ByteArray.ext
      rw [h3]
theorem tpRounds {l r n o q v : Int} (hg : goodB l r n o q v = true) {k : Int} (hk : 0 ≤ k ∧ k ≤ 8) {u : ByteArray} (hu : u.size ≤ 20) {w : World} {g0 c0 gs cap : Nat} {ao : Option Addr} (Kp : Blk w g0 32 #[.string ⟨#[97]⟩, .int .i64 9223372036854775807, .int .i64 0, .slice (some ⟨gs, 0, none⟩) 2 2]) (Ko : Blk w gs 29 #[.int .i64 4, .string ⟨#[]⟩, .int .i64 k, .int .i64 0, .slice none 0 0, .int .i64 0, .int .i64 0, .int .i64 2, .string ⟨#[]⟩, .int .i64 9223372036854775807, .int .i64 0, .slice none 0 0, .int .i64 (-1), .int .i64 (-1)]) {Rs : List (RdT × RB)} (hRs : Rs.map (·.1) = R0L u :: List.replicate 60 RL) (gr : Nat) (hao : ao = some ⟨gr, 0, none⟩) (hR : RndsAt w gr Rs) :
    Calls Tryz.prog 8 #[.agg #[.int .i64 l, .int .i64 r, .int .i64 n, .int .i64 o, .int .i64 q, .int .i64 v], .slice (some ⟨g0, 0, none⟩) 1 c0, .slice ao 61 cap] w fun e w' => ∃ ge m ce rest, e = .returned (.tuple #[.slice (some ⟨ge, 0, none⟩) m ce, .int .i64 0]) ∧ Hid (EvsAt w' ge (ev1 :: ev2 :: rest) ∧ m = (ev1 :: ev2 :: rest).length ∧ m ≤ ce ∧ (1 ≤ rest.length ∧ rest.length ≤ 90000) ∧ (∀ v ∈ rest, GoodEv v) ∧ NLPost n.toNat u ⟨(rdOf rest).toArray⟩ (stF 0 rest)) ∧ Below w.heap.size w w' := by
  obtain ⟨⟨l1, l2⟩, ⟨r1, r2⟩, ⟨n1, n2⟩, ⟨o1, o2⟩, ⟨q1, q2⟩, v1, v2⟩ := goodB_iff.1 hg
  obtain ⟨l, rfl⟩ := Int.eq_ofNat_of_zero_le (show 0 ≤ l by omega)
  obtain ⟨r, rfl⟩ := Int.eq_ofNat_of_zero_le (show 0 ≤ r by omega)
  obtain ⟨n, rfl⟩ := Int.eq_ofNat_of_zero_le (show 0 ≤ n by omega)
  obtain ⟨o, rfl⟩ := Int.eq_ofNat_of_zero_le (show 0 ≤ o by omega)
  obtain ⟨q, rfl⟩ := Int.eq_ofNat_of_zero_le (show 0 ≤ q by omega)
  obtain ⟨v, rfl⟩ := Int.eq_ofNat_of_zero_le (show 0 ≤ v by omega)
  subst hao
  have hok : (⟨l, r, n, o, q, v, aB, nev, 0, .pause k, .expect nev none⟩ : ScT).ok := ⟨⟨by show 1 ≤ l; omega, by show l ≤ 1024; omega⟩, ⟨by show 1 ≤ r; omega, by show r ≤ 4096; omega⟩, ⟨by show 1 ≤ n; omega, by show n ≤ 4096; omega⟩, ⟨by show 1 ≤ o; omega, by show o ≤ 4096; omega⟩, ⟨by show 1 ≤ q; omega, by show q ≤ 1000000; omega⟩, ⟨by show 1 ≤ v; omega, by show v ≤ 64; omega⟩, by show 0 ≤ 1000; omega⟩
  have hcf : (⟨l, r, n, o, q, v, aB, nev, 0, .pause k, .expect nev none⟩ : ScT).fit := ⟨.inr ⟨k, rfl, by omega, by omega⟩, nev, none, rfl, .inl rfl, fun p k e => by cases e⟩
  have hNL : NL (⟨l, r, n, o, q, v, aB, nev, 0, .pause k, .expect nev none⟩ : ScT) k := ⟨hok, rfl, rfl, rfl, hk⟩
  have hpr : PrFit aB nev 0 (.pause k) (.expect nev none) := ⟨aB_name, .inl rfl, by omega, ⟨by omega, by omega⟩, .inl rfl, fun p k e => by cases e⟩
  obtain ⟨hA, hB⟩ := nl_all hNL hpr u hu
  rw [← hRs] at hA
  have hlen : Rs.length = 61 := by rw [← List.length_map (f := (·.1)), hRs, List.length_cons, List.length_replicate]
  have hs : Scr w ⟨gs, 2, 0, 0, 0, 0⟩ (.pause k) (.expect nev none) := ⟨fun i v hv => (Ko.cell i).trans (by
    have e : ((OpT.cells (.pause k) 0 0 ++ OpT.cells (.expect nev none) 0 0) : List Value).toArray = #[.int .i64 4, .string ⟨#[]⟩, .int .i64 k, .int .i64 0, .slice none 0 0, .int .i64 0, .int .i64 0, .int .i64 2, .string ⟨#[]⟩, .int .i64 9223372036854775807, .int .i64 0, .slice none 0 0, .int .i64 (-1), .int .i64 (-1)] := rfl
    rw [← e]
    simpa using hv), Ko.lt, fun n p k e => (by cases e), fun n p k e => (by cases e)⟩
  refine (plEventsX (w := w) (cr := cap) (c0 := c0) hok hcf aB g0 gr 61 ⟨gs, 2, 0, 0, 0, 0⟩ rfl Kp.lt ⟨Kp.cell 0, Kp.cell 1, Kp.cell 2, Kp.cell 3⟩ hs Rs hR hlen.symm (by omega) hA).mono ?_
  rintro e w' ⟨ao, m, ce, rfl, HV, b⟩
  obtain ⟨evs, hm, ho, hT⟩ := HV.out
  rw [hRs] at hT
  obtain ⟨rest, rfl, h1, h2, h3, h4⟩ := hB evs hT
  obtain ⟨g, hgo, _, _⟩ := orow_cell ho 0 (by rw [evAll_length]; simp)
  subst hgo
  exact ⟨g, m, ce, rest, rfl, Lib.hid ⟨EvsAt.of ho (by simp), hm, by rw [hm]; exact orow_cap ho (by simp), ⟨h1, h2⟩, h3, nlPost h4⟩, b⟩
end Go.Proofs.YtbhgmccaecmpjaaGreat
