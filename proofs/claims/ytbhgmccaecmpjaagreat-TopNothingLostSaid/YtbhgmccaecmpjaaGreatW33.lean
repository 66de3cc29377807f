/-
  dial.New of the scripts that are looked at.
  Conditions: none beside the setup's and the script's bounds.
-/
import Derived.Test.YtbhgmccaecmpjaaGreatW32
import Derived.Test.YtbhgmccaecmpjaaGreatW23
namespace Go.Proofs.YtbhgmccaecmpjaaGreat
set_option linter.unusedVariables false
set_option linter.unusedSimpArgs false
open Go.RowKit

/-- How a dialogue starts. -/
def newT (c : ScT) (now : Int) : DT := ⟨0, 0, nev, behT now c.dl, nev, [], [], none, ⟨#[]⟩, 0, 0, 0, now, true⟩
def suV (c : ScT) : Value := .agg #[.int .i64 c.l, .int .i64 c.r, .int .i64 c.n, .int .i64 c.o, .int .i64 c.q, .int .i64 c.v]
def labD (lab : Nat → Nat) (N s x ra rx hx px : Nat) : Nat → Nat := fun i => if i < N then lab i else if i < s then 26 else if i = x then 27 else if i = ra then 20 else if i = rx then 21 else if i = hx then 22 else if i = px then 25 else 0
set_option maxRecDepth 100000 in
set_option maxHeartbeats 8000000 in
theorem diNew (c : ScT) (hc : c.ok) (hp : PrFit c.nm c.dl c.jm c.o0 c.o1) (sb : SB2) (w : World) (hs : Scr w sb c.o0 c.o1) (lab : Nat → Nat) (hN : ∀ i, i < w.heap.size → ¬ isD (lab i)) (now : Int) (hn : 0 ≤ now ∧ now ≤ 1000000000000) (h0 : (∃ n, c.o0 = .pause n) ∨ ∃ u, c.o0 = .send u) :
    Calls Tryz.prog 48 #[suV c, prV c.nm c.dl c.jm sb, .int .i64 now] w fun e w' => ∃ lab' b, e = .returned (.tuple #[.pointer (some ⟨b.x, 0, none⟩), .int .i64 0]) ∧ LabEq lab lab' w ∧ DiaR w' lab' b c (comeT c (newT c now) 0) ∧ w.heap.size ≤ b.x ∧ Below w.heap.size w w' := by
  have hg : goodB c.l c.r c.n c.o c.q c.v = true := goodB_iff.2 (by obtain ⟨h1, h2, h3, h4, h5, h6, h7⟩ := hc; omega)
  have FG : Hid (∀ w, Calls Tryz.prog 20 #[.agg #[.int .i64 c.l, .int .i64 c.r, .int .i64 c.n, .int .i64 c.o, .int .i64 c.q, .int .i64 c.v]] w fun e w' => e = .returned (.bool true) ∧ Below w.heap.size w w') := Lib.hid fun w => hg ▸ cGood c.l c.r c.n c.o c.q c.v w
  have FP : Hid (∀ w', Below w.heap.size w w' → Calls Tryz.prog 70 #[prV c.nm c.dl c.jm sb] w' fun e w'' => e = .returned (.bool true) ∧ Below w'.heap.size w' w'') := Lib.hid fun w' hb => pgGood c.nm c.dl c.jm sb c.o0 c.o1 hp w' (hs.later hb)
  have FC : Hid (∀ w', Below w.heap.size w w' → Calls Tryz.prog 24 #[prV c.nm c.dl c.jm sb] w' fun e w'' => ∃ b', e = .returned (prV c.nm c.dl c.jm b') ∧ Scr w'' b' c.o0 c.o1 ∧ (∀ i, b'.in_ c.o0 c.o1 i → w'.heap.size ≤ i) ∧ Below w'.heap.size w' w'') := Lib.hid fun w' hb => pgCopy c.nm c.dl c.jm sb c.o0 c.o1 w' (hs.later hb)
  unfold prV at FP FC ⊢
  unfold suV
  have how : ownT now = now := by unfold ownT; rw [if_neg (by omega)]
  have FO : Hid (∀ w, Calls Tryz.prog 74 #[.int .i64 now] w fun e w' => e = .returned (.int .i64 now) ∧ w = w') := Lib.hid fun w => by have := tOwn now w; rwa [how] at this
  have i64d : i64 c.dl := by rcases hp.dl with h | h; · rw [h]; unfold i64 nev; omega
                             · unfold i64; omega
  have i64n : i64 now := by unfold i64; omega
  have FB : Hid (∀ w, Calls Tryz.prog 75 #[.int .i64 now, .int .i64 c.dl] w fun e w' => e = .returned (.agg #[.int .i64 9223372036854775807, .int .i64 (behT now c.dl), .int .i64 9223372036854775807]) ∧ Below w.heap.size w w') := Lib.hid fun w => dBegin now c.dl w i64n i64d
  have FR : Hid (∀ w, Calls Tryz.prog 76 #[.int .i64 c.r] w fun e w' => ∃ y a, e = .returned (.pointer (some ⟨y, 0, none⟩)) ∧ Rng w' y a c.r 0 [] ∧ a < y ∧ w.heap.size ≤ a ∧ Below w.heap.size w w') := Lib.hid fun w => riNew w c.r hc.r
  have FH : Hid (∀ w, Calls Tryz.prog 77 #[.int .i64 c.n] w fun e w' => ∃ y, y = w.heap.size ∧ e = .returned (.pointer (some ⟨y, 0, none⟩)) ∧ HolR w' y (.slice none 0 0) c.n [] 0 (.pointer none) ∧ Below w.heap.size w w') := Lib.hid fun w => (hoNew w c.n hc.n).mono fun e w' ⟨h1, h2, h3⟩ => ⟨_, rfl, h1, h2, h3⟩
  have FE : Hid (∀ w, Calls Tryz.prog 78 #[.int .i64 c.o] w fun e w' => ∃ y, y = w.heap.size ∧ e = .returned (.pointer (some ⟨y, 0, none⟩)) ∧ Pnd w' y c.o ⟨#[]⟩ 0 0 0 ∧ Below w.heap.size w w') := Lib.hid fun w => (pNew c.o w).mono fun e w' ⟨h1, h2, h3⟩ => ⟨_, rfl, h1, by have := hc.o; rwa [show min (max (c.o : Int) 1) 4096 = c.o by omega] at h2, h3⟩
  obtain ⟨q, hq⟩ : ∃ q, w.heap.size = q := ⟨_, rfl⟩
  obtain ⟨wA, hwA⟩ : ∃ wA, wA = w.alloc (.cells #[.int .i64 c.l, .int .i64 c.r, .int .i64 c.n, .int .i64 c.o, .int .i64 c.q, .int .i64 c.v] 23) := ⟨_, rfl⟩
  have bA : Below w.heap.size w wA := by rw [hwA]; exact Below.alloc (Below.refl _ _) (Nat.le_refl _) _
  have KA : Blk wA q 23 #[.int .i64 c.l, .int .i64 c.r, .int .i64 c.n, .int .i64 c.o, .int .i64 c.q, .int .i64 c.v] := by rw [hwA, ← hq]; exact Blk.new _ _ _
  have sA : wA.heap.size = q + 1 := by rw [hwA, ← hq]; simp
  obtain ⟨w1, hw1⟩ : ∃ w1, w1 = wA.alloc (.cells #[.string c.nm, .int .i64 c.dl, .int .i64 c.jm, .slice (some ⟨sb.g, 0, none⟩) 2 sb.c] 32) := ⟨_, rfl⟩
  have b1 : Below w.heap.size w w1 := by rw [hw1]; exact bA.alloc (by omega) _
  have K1 : Blk w1 q 23 #[.int .i64 c.l, .int .i64 c.r, .int .i64 c.n, .int .i64 c.o, .int .i64 c.q, .int .i64 c.v] := by rw [hw1]; exact KA.alloc _
  have R1 : Blk w1 (q + 1) 32 #[.string c.nm, .int .i64 c.dl, .int .i64 c.jm, .slice (some ⟨sb.g, 0, none⟩) 2 sb.c] := by rw [hw1, ← sA]; exact Blk.new _ _ _
  have hw1' : w1 = (w.alloc (.cells #[.int .i64 c.l, .int .i64 c.r, .int .i64 c.n, .int .i64 c.o, .int .i64 c.q, .int .i64 c.v] 23)).alloc (.cells #[.string c.nm, .int .i64 c.dl, .int .i64 c.jm, .slice (some ⟨sb.g, 0, none⟩) 2 sb.c] 32) := by rw [hw1, hwA]
  have HW1 := Lib.hid hw1'
  have HQ := Lib.hid hq
  have B1 := Lib.hid b1
  have HC := Lib.hid hc
  have HPF := Lib.hid hp.o0
  have HN := Lib.hid hN
  have H0 := Lib.hid h0
  have HI := Lib.hid (And.intro i64d i64n)
  clear hwA hw1 hw1' hq bA KA sA b1 hg how hs hp hc hN h0 i64d i64n hn wA
  go_enter Tryz.func48, Tryz.ntmps48
  go_upto_region 1 with fail
  rw [← HW1.out, HQ.out]
  have d1 := K1.at6
  have e1 := R1.at4
  have hr := Below.refl w1.heap.size w1
  go_wp2_with fail
  refine (FG.out _).mono ?_; rintro r w2 ⟨rfl, b2⟩
  have K2 := K1.later b2
  have R2 := R1.later b2
  have B2 := Lib.hid (B1.out.up b2)
  clear d1 e1 hr b2 K1 R1 B1
  have d1 := K2.at6
  have e1 := R2.at4
  have hr := Below.refl w2.heap.size w2
  go_wp2_with fail
  refine (FP.out _ B2.out).mono ?_; rintro r w3 ⟨rfl, b3⟩
  have K3 := K2.later b3
  have R3 := R2.later b3
  have B3 := Lib.hid (B2.out.up b3)
  clear d1 e1 hr b3 K2 R2 B2
  have d1 := K3.at6
  have e1 := R3.at4
  have hr := Below.refl w3.heap.size w3
  go_upto_region 5 with fail
  have FC3 := Lib.hid (FC.out w3.drew B3.out.drew)
  refine wp_region_ordA (S := fun w' => Below w3.heap.size w3 w') [0, 1, 3, 2, 4, 5, 6, 7] 7 (by kernel_rfl) (by kernel_rfl) (by kernel_rfl) (by kernel_rfl) (by kernel_rfl) (by kernel_rfl) (by (repeat' (first | exact Below.refl _ _ | assumption | exact And.left (by assumption) | apply bel_alloc | apply Below.drew))) ?_
  simp only [pickL, List.filterMap_cons, List.filterMap_nil, List.getElem?_cons_zero, List.getElem?_cons_succ]
  repeat (refine ordA_take (v := ?_) (by rfl) (by rfl) ?_ ?_; rotate_left; (focus (intro w hSw; (try dsimp only at hSw); go_simp; (try with_reducible rfl))); simp only [Act.put, List.setIfInBounds_toArray, List.set_cons_zero, List.set_cons_succ])
  refine ordA_lone (by rfl) (by rfl) (fun KK hK => ?_)
  try go_simp
  refine FC3.out.mono ?_; rintro r w4 ⟨b', rfl, hs4, hb4, b4⟩
  have b34 : Below w3.heap.size w3 w4 := (Below.refl _ _).drew.up b4
  refine hK.out _ _ (.inr b34) ?_
  clear hK KK
  try simp only [Act.put, List.setIfInBounds_toArray, List.set_cons_zero, List.set_cons_succ]
  refine ordA_lone (by rfl) (by rfl) (fun KK hK => ?_)
  try go_simp
  refine (FO.out _).mono ?_; rintro r w4' ⟨rfl, rfl⟩
  refine hK.out _ _ (.inr b34) ?_
  clear hK KK
  try simp only [Act.put, List.setIfInBounds_toArray, List.set_cons_zero, List.set_cons_succ]
  repeat (refine ordA_take (v := ?_) (by rfl) (by rfl) ?_ ?_; rotate_left; (focus (intro w hSw; (try dsimp only at hSw); go_simp; (try with_reducible rfl))); simp only [Act.put, List.setIfInBounds_toArray, List.set_cons_zero, List.set_cons_succ])
  refine ordA_lone (by rfl) (by rfl) (fun KK hK => ?_)
  try go_simp
  have b45 : Below w4.heap.size w4 (w4.alloc (.cells #[.int .i64 c.l, .int .i64 c.r, .int .i64 c.n, .int .i64 c.o, .int .i64 c.q, .int .i64 c.v, .string c.nm, .int .i64 c.dl, .int .i64 c.jm, .slice (some ⟨b'.g, 0, none⟩) 2 b'.c, .int .i64 0, .int .i64 0, .int .i64 0, .int .i64 0, .int .i64 0, .int .i64 0, .pointer none, .pointer none, .pointer none, .bool false, .int .i64 now] 168)) := (Below.refl _ _).alloc (Nat.le_refl _) _
  refine hK.out _ _ (.inr (b34.up b45)) ?_
  clear hK KK
  try simp only [Act.put, List.setIfInBounds_toArray, List.set_cons_zero, List.set_cons_succ]
  obtain ⟨x, hx⟩ : ∃ x, w4.heap.size = x := ⟨_, rfl⟩
  have KX := Blk.new w4 168 #[.int .i64 c.l, .int .i64 c.r, .int .i64 c.n, .int .i64 c.o, .int .i64 c.q, .int .i64 c.v, .string c.nm, .int .i64 c.dl, .int .i64 c.jm, .slice (some ⟨b'.g, 0, none⟩) 2 b'.c, .int .i64 0, .int .i64 0, .int .i64 0, .int .i64 0, .int .i64 0, .int .i64 0, .pointer none, .pointer none, .pointer none, .bool false, .int .i64 now]
  rw [hx] at KX
  obtain ⟨w5, hw5⟩ : ∃ w5, w5 = w4.alloc (.cells #[.int .i64 c.l, .int .i64 c.r, .int .i64 c.n, .int .i64 c.o, .int .i64 c.q, .int .i64 c.v, .string c.nm, .int .i64 c.dl, .int .i64 c.jm, .slice (some ⟨b'.g, 0, none⟩) 2 b'.c, .int .i64 0, .int .i64 0, .int .i64 0, .int .i64 0, .int .i64 0, .int .i64 0, .pointer none, .pointer none, .pointer none, .bool false, .int .i64 now] 168) := ⟨_, rfl⟩
  rw [← hw5] at KX b45
  rw [hx, ← hw5]
  repeat (refine ordA_take (v := ?_) (by rfl) (by rfl) ?_ ?_; rotate_left; (focus (intro w hSw; (try dsimp only at hSw); go_simp; (try with_reducible rfl))); simp only [Act.put, List.setIfInBounds_toArray, List.set_cons_zero, List.set_cons_succ])
  refine ordA_done ?_
  have K5 := K3.later (b34.up b45)
  have R5 := R3.later (b34.up b45)
  have HS5 := Lib.hid (hs4.later b45)
  have HX : Hid ((w.heap.size ≤ w3.heap.size ∧ q + 1 < x) ∧ (∀ i, b'.in_ c.o0 c.o1 i → w3.heap.size ≤ i ∧ i < x)) := Lib.hid ⟨⟨B3.out.size, by have h1 := R3.lt; have h2 := b34.size; omega⟩, fun i hi => ⟨hb4 i hi, hx ▸ hs4.in_lt i hi⟩⟩
  have B5 := Lib.hid (B3.out.up (b34.up b45))
  clear hw5 hx d1 e1 hr b34 b45 b4 hs4 hb4 K3 R3 B3 FC3 FC FP FG
  have d1 := K5.at6
  have e1 := R5.at4
  have dx : ∀ w', Below w5.heap.size w5 w' → w'.cell? ⟨x, 20, none⟩ = some (.int .i64 now) ∧ w'.cell? ⟨x, 13, none⟩ = some (.int .i64 0) ∧ w'.cell? ⟨x, 14, none⟩ = some (.int .i64 0) ∧ w'.cell? ⟨x, 15, none⟩ = some (.int .i64 0) ∧ ∀ i, w'.frozen? ⟨x, i, none⟩ = false := fun w' hb => ⟨(KX.later hb).cell 20, (KX.later hb).cell 13, (KX.later hb).cell 14, (KX.later hb).cell 15, fun i => (KX.later hb).frozen i⟩
  have hr := Below.refl w5.heap.size w5
  go_upto_region 6 with fail
  refine wp_region_ordL (S := fun w' => Below w5.heap.size w5 w') [0, 1, 2, 3, 4, 5, 6, 7, 8, 9, 10] 10 (by kernel_rfl) (by kernel_rfl) (by kernel_rfl) (by kernel_rfl) (by kernel_rfl) (by kernel_rfl) (by (repeat' (first | exact Below.refl _ _ | assumption | exact And.left (by assumption) | apply bel_alloc | apply Below.drew))) ?_
  simp only [pickL, List.filterMap_cons, List.filterMap_nil, List.getElem?_cons_zero, List.getElem?_cons_succ]
  repeat (refine ordL_take (v := ?_) (by rfl) (by rfl) ?_ ?_; rotate_left; (focus (intro w hSw; (try dsimp only at hSw); go_simp; (try with_reducible rfl))); simp only [Act.put, List.setIfInBounds_toArray, List.set_cons_zero, List.set_cons_succ])
  refine ordL_lone (by rfl) (by rfl) (fun KK hK => ?_)
  try go_simp
  refine (FB.out _).mono ?_; rintro r w6 ⟨rfl, b6⟩
  have b56 : Below w5.heap.size w5 w6 := (Below.refl _ _).drew.up b6
  refine hK.out _ _ (.inr b56) ?_
  clear hK KK
  try simp only [Act.put, List.setIfInBounds_toArray, List.set_cons_zero, List.set_cons_succ]
  repeat (refine ordL_take (v := ?_) (by rfl) (by rfl) ?_ ?_; rotate_left; (focus (intro w hSw; (try dsimp only at hSw); go_simp; (try with_reducible rfl))); simp only [Act.put, List.setIfInBounds_toArray, List.set_cons_zero, List.set_cons_succ])
  refine ordL_lone (by rfl) (by rfl) (fun KK hK => ?_)
  try go_simp
  refine hK.out _ _ (.inl (by trivial)) ?_
  clear hK KK
  try simp only [Act.put, List.setIfInBounds_toArray, List.set_cons_zero, List.set_cons_succ]
  refine ordL_done ?_
  have KX6 := ((((KX.later b56).set_ 13 (.int .i64 9223372036854775807)).set_ 14 (.int .i64 (behT now c.dl))).set_ 15 (.int .i64 9223372036854775807))
  have hxq : w.heap.size ≤ x ∧ q + 1 < x := by
    obtain ⟨⟨h1, h3⟩, h2⟩ := HX.out
    exact ⟨by have := HQ.out; omega, h3⟩
  have hxl : x < w5.heap.size := KX.lt
  have K7 := ((((K5.later b56).far (p := ⟨x, 13, none⟩) (by show q ≠ x; omega) (.int .i64 9223372036854775807)).far (p := ⟨x, 14, none⟩) (by show q ≠ x; omega) (.int .i64 (behT now c.dl))).far (p := ⟨x, 15, none⟩) (by show q ≠ x; omega) (.int .i64 9223372036854775807))
  have b7 : Below w.heap.size w (((w6.setCell ⟨x, 13, none⟩ (.int .i64 9223372036854775807)).setCell ⟨x, 14, none⟩ (.int .i64 (behT now c.dl))).setCell ⟨x, 15, none⟩ (.int .i64 9223372036854775807)) := (((B5.out.up b56).setCell (p := ⟨x, 13, none⟩) hxq.1 _).setCell (p := ⟨x, 14, none⟩) hxq.1 _).setCell (p := ⟨x, 15, none⟩) hxq.1 _
  have f7 : Foot (fun i => i = x) w5 (((w6.setCell ⟨x, 13, none⟩ (.int .i64 9223372036854775807)).setCell ⟨x, 14, none⟩ (.int .i64 (behT now c.dl))).setCell ⟨x, 15, none⟩ (.int .i64 9223372036854775807)) := foot_set (fun i => i = x) (foot_set (fun i => i = x) (foot_set (fun i => i = x) ((Foot.refl _ w5).up b56) x 13 rfl _) x 14 rfl _) x 15 rfl _
  obtain ⟨w7, hw7⟩ : ∃ w7, w7 = ((w6.setCell ⟨x, 13, none⟩ (.int .i64 9223372036854775807)).setCell ⟨x, 14, none⟩ (.int .i64 (behT now c.dl))).setCell ⟨x, 15, none⟩ (.int .i64 9223372036854775807) := ⟨_, rfl⟩
  rw [← hw7] at KX6 K7 b7 f7
  rw [← hw7]
  have KX7 : Blk w7 x 168 #[.int .i64 c.l, .int .i64 c.r, .int .i64 c.n, .int .i64 c.o, .int .i64 c.q, .int .i64 c.v, .string c.nm, .int .i64 c.dl, .int .i64 c.jm, .slice (some ⟨b'.g, 0, none⟩) 2 b'.c, .int .i64 0, .int .i64 0, .int .i64 0, .int .i64 9223372036854775807, .int .i64 (behT now c.dl), .int .i64 9223372036854775807, .pointer none, .pointer none, .pointer none, .bool false, .int .i64 now] := KX6
  have S7 := Lib.hid (HS5.out.foot f7 (fun i hi => by have := (HX.out.2 i hi).2; show ¬ i = x; omega))
  have B7 := Lib.hid b7
  clear hw7 KX6 KX K5 R5 dx d1 e1 hr f7 b7 b56 b6 HS5
  have d1 := K7.at6
  have dx : ∀ w', Below w7.heap.size w7 w' → w'.cell? ⟨x, 16, none⟩ = some (.pointer none) ∧ w'.cell? ⟨x, 17, none⟩ = some (.pointer none) ∧ w'.cell? ⟨x, 18, none⟩ = some (.pointer none) ∧ ∀ i, w'.frozen? ⟨x, i, none⟩ = false := fun w' hb => ⟨(KX7.later hb).cell 16, (KX7.later hb).cell 17, (KX7.later hb).cell 18, fun i => (KX7.later hb).frozen i⟩
  have hr := Below.refl w7.heap.size w7
  have MK : Hid (∀ w', Blk w' q 23 #[.int .i64 c.l, .int .i64 c.r, .int .i64 c.n, .int .i64 c.o, .int .i64 c.q, .int .i64 c.v] → w'.cell? ⟨q, 1, none⟩ = some (.int .i64 c.r) ∧ w'.cell? ⟨q, 2, none⟩ = some (.int .i64 c.n) ∧ w'.cell? ⟨q, 3, none⟩ = some (.int .i64 c.o)) := Lib.hid fun w' h => ⟨h.cell 1, h.cell 2, h.cell 3⟩
  go_upto_region 7 with fail
  have K7d := K7.drew
  refine wp_region_ordL (S := fun w' => w'.cell? ⟨q, 1, none⟩ = some (.int .i64 c.r) ∧ w'.cell? ⟨q, 2, none⟩ = some (.int .i64 c.n) ∧ w'.cell? ⟨q, 3, none⟩ = some (.int .i64 c.o)) [0, 1, 2, 3, 4, 6, 7, 9, 10, 5, 8, 11, 12, 13, 14, 15, 16, 17, 18, 19, 20] 20 (by kernel_rfl) (by kernel_rfl) (by kernel_rfl) (by kernel_rfl) (by kernel_rfl) (by kernel_rfl) (MK.out _ K7d) ?_
  simp only [pickL, List.filterMap_cons, List.filterMap_nil, List.getElem?_cons_zero, List.getElem?_cons_succ]
  repeat (refine ordL_take (v := ?_) (by rfl) (by rfl) ?_ ?_; rotate_left; (focus (intro w hSw; (try dsimp only at hSw); go_simp; (try with_reducible rfl))); simp only [Act.put, List.setIfInBounds_toArray, List.set_cons_zero, List.set_cons_succ])
  refine ordL_lone (by rfl) (by rfl) (fun KK hK => ?_)
  try go_simp
  refine (FR.out _).mono ?_; rintro e v1 ⟨rx, ra, rfl, hRng, hax, hra, c1⟩
  have k1 : Below w7.heap.size w7 v1 := (Below.refl _ _).drew.up c1
  have L1 := K7.later k1
  refine hK.out _ _ (.inr (MK.out _ L1)) ?_
  clear hK KK
  try simp only [Act.put, List.setIfInBounds_toArray, List.set_cons_zero, List.set_cons_succ]
  refine ordL_lone (by rfl) (by rfl) (fun KK hK => ?_)
  try go_simp
  refine (FH.out _).mono ?_; rintro e v2 ⟨hx, hhx, rfl, hHol, c2⟩
  have HHX := Lib.hid hhx
  clear hhx
  have L2 := L1.later c2
  refine hK.out _ _ (.inr (MK.out _ L2)) ?_
  clear hK KK
  try simp only [Act.put, List.setIfInBounds_toArray, List.set_cons_zero, List.set_cons_succ]
  refine ordL_lone (by rfl) (by rfl) (fun KK hK => ?_)
  try go_simp
  refine (FE.out _).mono ?_; rintro e v3 ⟨px, hpx, rfl, hPnd, c3⟩
  have HPX := Lib.hid hpx
  clear hpx
  have L3 := L2.later c3
  refine hK.out _ _ (.inr (MK.out _ L3)) ?_
  clear hK KK
  try simp only [Act.put, List.setIfInBounds_toArray, List.set_cons_zero, List.set_cons_succ]
  have k3 : Below w7.heap.size w7 v3 := (k1.up c2).up c3
  have KX8 := KX7.later k3
  have dx8 : ∀ w', Below v3.heap.size v3 w' → w'.cell? ⟨x, 16, none⟩ = some (.pointer none) ∧ w'.cell? ⟨x, 17, none⟩ = some (.pointer none) ∧ w'.cell? ⟨x, 18, none⟩ = some (.pointer none) ∧ ∀ i, w'.frozen? ⟨x, i, none⟩ = false := fun w' hb => ⟨(KX8.later hb).cell 16, (KX8.later hb).cell 17, (KX8.later hb).cell 18, fun i => (KX8.later hb).frozen i⟩
  have hr3 := Below.refl v3.heap.size v3
  have M5 := L3.far (p := ⟨x, 16, none⟩) (by show q ≠ x; omega) (.pointer (some ⟨rx, 0, none⟩))
  have M6 := M5.far (p := ⟨x, 17, none⟩) (by show q ≠ x; omega) (.pointer (some ⟨hx, 0, none⟩))
  have H5 := Lib.hid (MK.out _ M5)
  have H6 := Lib.hid (MK.out _ M6)
  repeat (refine ordL_take (v := ?_) (by rfl) (by rfl) ?_ ?_; rotate_left; (focus (intro w hSw; (try dsimp only at hSw); go_simp; (try with_reducible rfl))); simp only [Act.put, List.setIfInBounds_toArray, List.set_cons_zero, List.set_cons_succ])
  refine ordL_lone (by rfl) (by rfl) (fun KK hK => ?_)
  try go_simp
  refine hK.out _ _ (.inr H5.out) ?_
  clear hK KK
  try simp only [Act.put, List.setIfInBounds_toArray, List.set_cons_zero, List.set_cons_succ]
  repeat (refine ordL_take (v := ?_) (by rfl) (by rfl) ?_ ?_; rotate_left; (focus (intro w hSw; (try dsimp only at hSw); go_simp; (try with_reducible rfl))); simp only [Act.put, List.setIfInBounds_toArray, List.set_cons_zero, List.set_cons_succ])
  refine ordL_lone (by rfl) (by rfl) (fun KK hK => ?_)
  try go_simp
  refine hK.out _ _ (.inr H6.out) ?_
  clear hK KK
  try simp only [Act.put, List.setIfInBounds_toArray, List.set_cons_zero, List.set_cons_succ]
  repeat (refine ordL_take (v := ?_) (by rfl) (by rfl) ?_ ?_; rotate_left; (focus (intro w hSw; (try dsimp only at hSw); go_simp; (try with_reducible rfl))); simp only [Act.put, List.setIfInBounds_toArray, List.set_cons_zero, List.set_cons_succ])
  refine ordL_lone (by rfl) (by rfl) (fun KK hK => ?_)
  try go_simp
  refine hK.out _ _ (.inl (by trivial)) ?_
  clear hK KK
  try simp only [Act.put, List.setIfInBounds_toArray, List.set_cons_zero, List.set_cons_succ]
  refine ordL_done ?_
  have f4 : Foot (fun i => i = x) v3 (((v3.setCell ⟨x, 16, none⟩ (.pointer (some ⟨rx, 0, none⟩))).setCell ⟨x, 17, none⟩ (.pointer (some ⟨hx, 0, none⟩))).setCell ⟨x, 18, none⟩ (.pointer (some ⟨px, 0, none⟩))) := foot_set (fun i => i = x) (foot_set (fun i => i = x) (foot_set (fun i => i = x) (Foot.refl _ v3) x 16 rfl _) x 17 rfl _) x 18 rfl _
  have KX9 := ((KX8.set_ 16 (.pointer (some ⟨rx, 0, none⟩))).set_ 17 (.pointer (some ⟨hx, 0, none⟩))).set_ 18 (.pointer (some ⟨px, 0, none⟩))
  have b9 : Below w.heap.size w (((v3.setCell ⟨x, 16, none⟩ (.pointer (some ⟨rx, 0, none⟩))).setCell ⟨x, 17, none⟩ (.pointer (some ⟨hx, 0, none⟩))).setCell ⟨x, 18, none⟩ (.pointer (some ⟨px, 0, none⟩))) := ((((B7.out.up k3).setCell (p := ⟨x, 16, none⟩) hxq.1 _).setCell (p := ⟨x, 17, none⟩) hxq.1 _).setCell (p := ⟨x, 18, none⟩) hxq.1 _)
  obtain ⟨v4, hv4⟩ : ∃ v4, v4 = ((v3.setCell ⟨x, 16, none⟩ (.pointer (some ⟨rx, 0, none⟩))).setCell ⟨x, 17, none⟩ (.pointer (some ⟨hx, 0, none⟩))).setCell ⟨x, 18, none⟩ (.pointer (some ⟨px, 0, none⟩)) := ⟨_, rfl⟩
  rw [← hv4] at f4 KX9 b9
  rw [← hv4]
  have sz : x < ra ∧ ra < rx ∧ rx < hx ∧ hx < px := by
    have h1 := KX7.lt
    have h2 := HHX.out
    have h3 := HPX.out
    have h4 := hRng.blk.lt
    have h5 := hHol.v.lt
    have h6 : w7.drew.heap.size = w7.heap.size := rfl
    omega
  have HB : Hid (∃ b : DB, b.x = x ∧ DiaR v4 (labD lab w.heap.size x x ra rx hx px) b c (newT c now)) := Lib.hid (by
    obtain ⟨z1, z2, z3, z4⟩ := sz
    refine ⟨⟨x, rx, ra, 0, hx, .slice none 0 0, ⟨0, 0, 0, 0⟩, px, b'⟩, rfl, KX9, ((hRng.later (c2.up c3)).foot f4 (by show ¬ rx = x; omega) (by show ¬ ra = x; omega)), ?_, ?_, ?_, ?_, ?_, ?_, ?_, ?_, HC.out⟩
    · exact (hHol.v.later c3).foot f4 (by show ¬ hx = x; omega)
    · exact fun _ => (hHol.row.later c3).foot f4 (fun g hg => (by cases hg))
    · exact fun g hg => by cases hg
    · exact fun p hp => by cases hp
    · exact Blk.foot hPnd f4 (by show ¬ px = x; omega)
    · exact ⟨Nat.le_refl _, Nat.zero_le _, by show (0 : Nat) ≤ 1000000; omega⟩
    · exact ((S7.out.later k3).foot f4 (fun i hi => by have := (HX.out.2 i hi).2; show ¬ i = x; omega))
    · have hq := hxq.1
      refine ⟨?_, ?_, fun g hg => (by cases hg), fun h => (by cases h), ?_, ?_, ?_, fun i hi => ?_⟩
      · show labD _ _ _ _ _ _ _ _ x = 27; unfold labD; rw [if_neg (by omega), if_neg (by omega), if_pos rfl]
      · show labD _ _ _ _ _ _ _ _ hx = 22; unfold labD; rw [if_neg (by omega), if_neg (by omega), if_neg (by omega), if_neg (by omega), if_neg (by omega), if_pos rfl]
      · show labD _ _ _ _ _ _ _ _ rx = 21; unfold labD; rw [if_neg (by omega), if_neg (by omega), if_neg (by omega), if_neg (by omega), if_pos rfl]
      · show labD _ _ _ _ _ _ _ _ ra = 20; unfold labD; rw [if_neg (by omega), if_neg (by omega), if_neg (by omega), if_pos rfl]
      · show labD _ _ _ _ _ _ _ _ px = 25; unfold labD; rw [if_neg (by omega), if_neg (by omega), if_neg (by omega), if_neg (by omega), if_neg (by omega), if_neg (by omega), if_pos rfl]
      · have h1 := HX.out.2 i hi
        have h2 := HX.out.1.1
        show labD _ _ _ _ _ _ _ _ i = 26; unfold labD; rw [if_neg (by omega), if_pos (by omega)])
  obtain ⟨lab1, hlab1⟩ : ∃ lab1, lab1 = labD lab w.heap.size x x ra rx hx px := ⟨_, rfl⟩
  rw [← hlab1] at HB
  have HLB : Hid (LabEq lab lab1 w ∧ ∀ i, isD (lab1 i) → w.heap.size ≤ i) := Lib.hid ⟨fun i hi => by rw [hlab1]; unfold labD; rw [if_pos hi], fun i hi => by
    rcases Nat.lt_or_ge i w.heap.size with h | h
    · exfalso
      rw [hlab1] at hi
      unfold labD at hi
      rw [if_pos h] at hi
      exact HN.out i h hi
    · exact h⟩
  have B9 := Lib.hid b9
  have HXQ := Lib.hid hxq.1
  clear hlab1 hv4 sz f4 KX9 b9 KX8 dx8 hr3 L1 L2 L3 M5 M6 H5 H6 MK c1 c2 c3 k1 k3 hRng hHol hPnd hra hax d1 dx hr K7 K7d KX7 hxq hxl
  obtain ⟨b, hbx, HBD⟩ := HB.out
  subst hbx
  have HD := Lib.hid HBD
  clear HB HBD
  have FK : Hid (Calls Tryz.prog 79 #[.pointer (some ⟨b.x, 0, none⟩), .int .i64 0] v4 fun e w' => ∃ lab' b', e = .returned (.tuple #[]) ∧ LabEq lab1 lab' v4 ∧ DiaR w' lab' b' c (comeT c (newT c now) 0) ∧ b'.x = b.x ∧ Foot (fun i => isD (lab1 i)) v4 w') := Lib.hid (by
    have hf := HPF.out
    rcases H0.out with ⟨n, h⟩ | ⟨u, h⟩
    · rw [h] at hf
      exact coPause0 HD.out h rfl ⟨HI.out.2, by have h1 := hf.1; have h2 := hf.2; unfold i64; omega⟩
    · rw [h] at hf
      exact coSend0 HD.out h rfl (by have := hf.2; omega))
  go_wp2_with fail
  refine FK.out.mono ?_; rintro e v5 ⟨lab2, b2, rfl, hl2, hd2, hx2, f5⟩
  go_wp2_with fail
  go_ret2
  have hsz := B9.out.size
  refine ⟨lab2, b2, by rw [hx2]; rfl, HLB.out.1.trans hl2 hsz, hd2, by rw [hx2]; exact HXQ.out, B9.out.trans (f5.below HLB.out.2 hsz)⟩
end Go.Proofs.YtbhgmccaecmpjaaGreat
