/-
  The event of some words: round. And the others alike.
  Conditions: the words are short; the errors of strconv stand in their variables.
-/
import Derived.Test.YtmnkekepccdlcaaGreatDoorLogJ
namespace Go.Proofs.YtmnkekepccdlcaaGreatDoor
set_option linter.unusedVariables false
set_option linter.unusedSimpArgs false
open Go.RowKit

set_option maxHeartbeats 8000000 in
set_option maxRecDepth 100000 in
theorem lSome_round (ws : List (List UInt8)) (g cap : Nat) (w : World) (hw : WL w g ws) (hl : 1 ≤ ws.length ∧ ws.length ≤ 200000) (hz : ∀ x ∈ ws, x.length ≤ 100000) (he : EnvL w) (h0 : atW ws 0 = wRound) :
    Calls Tryz.prog 66 #[.slice (some ⟨g, 0, none⟩) ws.length cap] w fun e w' => e = .returned (.agg (evC (someT ws))) ∧ Below w.heap.size w w' := by
  have HW := Lib.hid hw
  have HE := Lib.hid he
  have HZ := Lib.hid (fun k => atW_len hz k)
  have hl2 : ws.length ≤ 1000000 := by omega
  have HL := Lib.hid hl2
  have e0 : (0 : Int) < (ws.length : Int) := by omega
  have hc0 : ws[0]? = some (atW ws 0) := by
    unfold atW
    rw [List.getElem?_eq_getElem (by omega)]; rfl
  have hg0 := hw 0 (atW ws 0) hc0
  clear hw he hz hl hc0 hl2
  have HS := Lib.hid (show someT ws = ⟨1, 0, 0, (parseT (atW ws 1)).1, ⟨#[]⟩, 0, 0, 0, 0, 0, 0, 0⟩ by unfold someT; rw [h0]; rfl)
  have hg0 : w.cell? ⟨g, 0, none⟩ = some (.string ⟨#[114, 111, 117, 110, 100]⟩) := by rw [hg0, h0]; rfl
  clear h0
  have HG0 := Lib.hid hg0
  clear hg0
  obtain ⟨w1, hw1⟩ : ∃ w1, (w.alloc (.cells #[.slice (some ⟨g, 0, none⟩) ws.length cap] 45)).alloc (.cells (evC ev0) 27) = w1 := ⟨_, rfl⟩
  have k1 : Blk w1 w.heap.size 45 #[.slice (some ⟨g, 0, none⟩) ws.length cap] := by rw [← hw1]; exact Blk.alloc (Blk.new _ _ _) _
  have k2 : Blk w1 (w.heap.size + 1) 27 (evC ev0) := by rw [← hw1]; simpa using Blk.new (w.alloc (.cells #[.slice (some ⟨g, 0, none⟩) ws.length cap] 45)) 27 (evC ev0)
  have hb1 : Below w.heap.size w w1 := by rw [← hw1]; exact ((Below.refl _ _).alloc (Nat.le_refl _) _).alloc (by simp) _
  have HW1 := Lib.hid hw1
  obtain ⟨q1, hq1⟩ : ∃ q, w.heap.size = q := ⟨_, rfl⟩
  obtain ⟨q2, hq2⟩ : ∃ q, q1 + 1 = q := ⟨_, rfl⟩
  rw [hq1] at k1 k2
  rw [hq2] at k2
  have HQ := Lib.hid (And.intro hq1 hq2)
  have HB1 := Lib.hid hb1
  have K1 := Lib.hid k1
  have K2 := Lib.hid k2
  clear hw1 hb1 k1 k2 hq1 hq2
  simp only [ev0] at HW1
  go_enter Tryz.func66, Tryz.ntmps66
  go_upto_region 1 with fail
  rw [HW1.out, HQ.out.1, HQ.out.2]
  go_wp2_with fail
  refine (lAt1 q1 g cap ws _ K1.out (HW.out.later HB1.out) HL.out).mono ?_; rintro e w2 ⟨rfl, rfl⟩
  go_wp2_with fail
  refine (lNumberL (atW ws 1) (HZ.out 1) _ (HE.out.later HB1.out)).mono ?_; rintro e w3 ⟨rfl, hb3⟩
  go_upto_region 3 with fail
  have sm3 := sm_start HQ.out (K1.out.later hb3) (K2.out.later hb3) (HB1.out.up hb3) (evC { ev0 with id := numT (atW ws 1) })
  clear hb3 K1 K2 HB1 HW1
  simp only [evC, ev0] at sm3
  obtain ⟨q4, hq4⟩ : ∃ q, w3.heap.size = q := ⟨_, rfl⟩
  rw [hq4] at sm3 ⊢
  clear hq4
  generalize w3.alloc (.cells #[.int .i64 0, .int .i64 (numT (atW ws 1)), .int .i64 0, .int .i64 0, .string ⟨#[]⟩, .int .i64 0, .int .i64 0, .int .i64 0, .int .i64 0, .int .i64 0, .int .i64 0, .int .i64 0] 27) = w4 at *
  obtain ⟨n1, hn1⟩ : ∃ n, numT (atW ws 1) = n := ⟨_, rfl⟩
  rw [hn1] at sm3 ⊢
  have HNN : Hid (numT (atW ws 1) = n1) := Lib.hid hn1
  clear hn1
  have SM4 := Lib.hid sm3
  have c0 : w4.cell? ⟨g, 0, none⟩ = some (.string ⟨#[114, 111, 117, 110, 100]⟩) := cellE_later HG0.out sm3.bel
  have dq := sm3.k1.at1
  have d4 := sm3.k4.at12
  have hr := Below.refl w4.heap.size w4
  clear sm3
  go_upto_region 7 with fail
  generalize hwn : ((((((((((((w4.setCell ⟨q4, 0, none⟩ (.int .i64 1)).setCell ⟨q4, 1, none⟩ (.int .i64 0)).setCell ⟨q4, 2, none⟩ (.int .i64 0)).setCell ⟨q4, 3, none⟩ (.int .i64 0)).setCell ⟨q4, 4, none⟩ (.string ⟨#[]⟩)).setCell ⟨q4, 5, none⟩ (.int .i64 0)).setCell ⟨q4, 6, none⟩ (.int .i64 0)).setCell ⟨q4, 7, none⟩ (.int .i64 0)).setCell ⟨q4, 8, none⟩ (.int .i64 0)).setCell ⟨q4, 9, none⟩ (.int .i64 0)).setCell ⟨q4, 10, none⟩ (.int .i64 0)).setCell ⟨q4, 11, none⟩ (.int .i64 0)) = w5
  have SM5 := Lib.hid (show SM w w5 q1 q2 q4 g cap ws #[.int .i64 1, .int .i64 0, .int .i64 0, .int .i64 0, .string ⟨#[]⟩, .int .i64 0, .int .i64 0, .int .i64 0, .int .i64 0, .int .i64 0, .int .i64 0, .int .i64 0] by rw [← hwn]; exact ((SM4.out).all (.int .i64 1) (.int .i64 0) (.int .i64 0) (.int .i64 0) (.string ⟨#[]⟩) (.int .i64 0) (.int .i64 0) (.int .i64 0) (.int .i64 0) (.int .i64 0) (.int .i64 0) (.int .i64 0)))
  clear hwn SM4 c0 dq d4 hr
  have c0 : w5.cell? ⟨g, 0, none⟩ = some (.string ⟨#[114, 111, 117, 110, 100]⟩) := cellE_later HG0.out SM5.out.bel
  have dq := SM5.out.k1.at1
  have d4 := SM5.out.k4.at12
  have hr := Below.refl w5.heap.size w5
  go_upto_region 9 with fail
  go_wp2_with fail
  refine (lAt1 q1 g cap ws _ (SM5.out).k1 (HW.out.later (SM5.out).bel) HL.out).mono ?_; rintro e wz ⟨rfl, rfl⟩
  go_wp2_with fail
  refine (tParseL (atW ws 1) (HZ.out 1) _ (HE.out.later (SM5.out).bel)).mono ?_; rintro e w6 ⟨rfl, hbn⟩
  have SM6 := Lib.hid ((SM5.out).later hbn)
  clear hbn SM5 c0 dq d4 hr
  have c0 : w6.cell? ⟨g, 0, none⟩ = some (.string ⟨#[114, 111, 117, 110, 100]⟩) := cellE_later HG0.out SM6.out.bel
  have dq := SM6.out.k1.at1
  have d4 := SM6.out.k4.at12
  have hr := Below.refl w6.heap.size w6
  go_upto_region 30 with fail
  generalize hwn : (w6.setCell ⟨q4, 3, none⟩ (.int .i64 ((parseT (atW ws 1)).1))) = w7
  have SM7 := Lib.hid (show SM w w7 q1 q2 q4 g cap ws #[.int .i64 1, .int .i64 0, .int .i64 0, .int .i64 ((parseT (atW ws 1)).1), .string ⟨#[]⟩, .int .i64 0, .int .i64 0, .int .i64 0, .int .i64 0, .int .i64 0, .int .i64 0, .int .i64 0] by rw [← hwn]; exact ((SM6.out).set_ 3 (.int .i64 ((parseT (atW ws 1)).1))))
  clear hwn SM6 c0 dq d4 hr
  have c0 : w7.cell? ⟨g, 0, none⟩ = some (.string ⟨#[114, 111, 117, 110, 100]⟩) := cellE_later HG0.out SM7.out.bel
  have dq := SM7.out.k1.at1
  have d4 := SM7.out.k4.at12
  have hr := Below.refl w7.heap.size w7
  have g2 : ∀ w', Below w7.heap.size w7 w' → _ := Blk.at12 SM7.out.k2
  have nq := SM7.out.n2
  simp only [ev0] at g2
  go_wp2_with fail
  generalize hwf : ((((((((((((w7.setCell ⟨q2, 0, none⟩ (.int .i64 1)).setCell ⟨q2, 1, none⟩ (.int .i64 0)).setCell ⟨q2, 2, none⟩ (.int .i64 0)).setCell ⟨q2, 3, none⟩ (.int .i64 ((parseT (atW ws 1)).1))).setCell ⟨q2, 4, none⟩ (.string ⟨#[]⟩)).setCell ⟨q2, 5, none⟩ (.int .i64 0)).setCell ⟨q2, 6, none⟩ (.int .i64 0)).setCell ⟨q2, 7, none⟩ (.int .i64 0)).setCell ⟨q2, 8, none⟩ (.int .i64 0)).setCell ⟨q2, 9, none⟩ (.int .i64 0)).setCell ⟨q2, 10, none⟩ (.int .i64 0)).setCell ⟨q2, 11, none⟩ (.int .i64 0)) = wf
  have kf : Blk wf q2 27 #[.int .i64 1, .int .i64 0, .int .i64 0, .int .i64 ((parseT (atW ws 1)).1), .string ⟨#[]⟩, .int .i64 0, .int .i64 0, .int .i64 0, .int .i64 0, .int .i64 0, .int .i64 0, .int .i64 0] := by rw [← hwf]; exact Blk.set12 SM7.out.k2 (.int .i64 1) (.int .i64 0) (.int .i64 0) (.int .i64 ((parseT (atW ws 1)).1)) (.string ⟨#[]⟩) (.int .i64 0) (.int .i64 0) (.int .i64 0) (.int .i64 0) (.int .i64 0) (.int .i64 0) (.int .i64 0)
  have hbf : Below w.heap.size w wf := by rw [← hwf]; exact below_set12 SM7.out.bel SM7.out.o2 (.int .i64 1) (.int .i64 0) (.int .i64 0) (.int .i64 ((parseT (atW ws 1)).1)) (.string ⟨#[]⟩) (.int .i64 0) (.int .i64 0) (.int .i64 0) (.int .i64 0) (.int .i64 0) (.int .i64 0) (.int .i64 0)
  have df := kf.at12
  have hrf := Below.refl wf.heap.size wf
  clear hwf g2 d4 dq c0 hr kf nq
  (try simp only [Exit.inBlock, Exit.then])
  refine bodyPost_ret (v := .agg #[.int .i64 1, .int .i64 0, .int .i64 0, .int .i64 ((parseT (atW ws 1)).1), .string ⟨#[]⟩, .int .i64 0, .int .i64 0, .int .i64 0, .int .i64 0, .int .i64 0, .int .i64 0, .int .i64 0]) ?_ rfl ⟨by (rw [HS.out]; try rw [HNN.out]), hbf⟩
  rw [results_cell_one rfl]
  go_simp

set_option maxHeartbeats 8000000 in
set_option maxRecDepth 100000 in
theorem lSome_drain (ws : List (List UInt8)) (g cap : Nat) (w : World) (hw : WL w g ws) (hl : 1 ≤ ws.length ∧ ws.length ≤ 200000) (hz : ∀ x ∈ ws, x.length ≤ 100000) (he : EnvL w) (h0 : atW ws 0 = wDrain) :
    Calls Tryz.prog 66 #[.slice (some ⟨g, 0, none⟩) ws.length cap] w fun e w' => e = .returned (.agg (evC (someT ws))) ∧ Below w.heap.size w w' := by
  have HW := Lib.hid hw
  have HE := Lib.hid he
  have HZ := Lib.hid (fun k => atW_len hz k)
  have hl2 : ws.length ≤ 1000000 := by omega
  have HL := Lib.hid hl2
  have e0 : (0 : Int) < (ws.length : Int) := by omega
  have hc0 : ws[0]? = some (atW ws 0) := by
    unfold atW
    rw [List.getElem?_eq_getElem (by omega)]; rfl
  have hg0 := hw 0 (atW ws 0) hc0
  clear hw he hz hl hc0 hl2
  have HS := Lib.hid (show someT ws = ⟨7, 0, 0, (parseT (atW ws 1)).1, ⟨#[]⟩, 0, 0, 0, 0, 0, 0, 0⟩ by unfold someT; rw [h0]; rfl)
  have hg0 : w.cell? ⟨g, 0, none⟩ = some (.string ⟨#[100, 114, 97, 105, 110]⟩) := by rw [hg0, h0]; rfl
  clear h0
  have HG0 := Lib.hid hg0
  clear hg0
  obtain ⟨w1, hw1⟩ : ∃ w1, (w.alloc (.cells #[.slice (some ⟨g, 0, none⟩) ws.length cap] 45)).alloc (.cells (evC ev0) 27) = w1 := ⟨_, rfl⟩
  have k1 : Blk w1 w.heap.size 45 #[.slice (some ⟨g, 0, none⟩) ws.length cap] := by rw [← hw1]; exact Blk.alloc (Blk.new _ _ _) _
  have k2 : Blk w1 (w.heap.size + 1) 27 (evC ev0) := by rw [← hw1]; simpa using Blk.new (w.alloc (.cells #[.slice (some ⟨g, 0, none⟩) ws.length cap] 45)) 27 (evC ev0)
  have hb1 : Below w.heap.size w w1 := by rw [← hw1]; exact ((Below.refl _ _).alloc (Nat.le_refl _) _).alloc (by simp) _
  have HW1 := Lib.hid hw1
  obtain ⟨q1, hq1⟩ : ∃ q, w.heap.size = q := ⟨_, rfl⟩
  obtain ⟨q2, hq2⟩ : ∃ q, q1 + 1 = q := ⟨_, rfl⟩
  rw [hq1] at k1 k2
  rw [hq2] at k2
  have HQ := Lib.hid (And.intro hq1 hq2)
  have HB1 := Lib.hid hb1
  have K1 := Lib.hid k1
  have K2 := Lib.hid k2
  clear hw1 hb1 k1 k2 hq1 hq2
  simp only [ev0] at HW1
  go_enter Tryz.func66, Tryz.ntmps66
  go_upto_region 1 with fail
  rw [HW1.out, HQ.out.1, HQ.out.2]
  go_wp2_with fail
  refine (lAt1 q1 g cap ws _ K1.out (HW.out.later HB1.out) HL.out).mono ?_; rintro e w2 ⟨rfl, rfl⟩
  go_wp2_with fail
  refine (lNumberL (atW ws 1) (HZ.out 1) _ (HE.out.later HB1.out)).mono ?_; rintro e w3 ⟨rfl, hb3⟩
  go_upto_region 3 with fail
  have sm3 := sm_start HQ.out (K1.out.later hb3) (K2.out.later hb3) (HB1.out.up hb3) (evC { ev0 with id := numT (atW ws 1) })
  clear hb3 K1 K2 HB1 HW1
  simp only [evC, ev0] at sm3
  obtain ⟨q4, hq4⟩ : ∃ q, w3.heap.size = q := ⟨_, rfl⟩
  rw [hq4] at sm3 ⊢
  clear hq4
  generalize w3.alloc (.cells #[.int .i64 0, .int .i64 (numT (atW ws 1)), .int .i64 0, .int .i64 0, .string ⟨#[]⟩, .int .i64 0, .int .i64 0, .int .i64 0, .int .i64 0, .int .i64 0, .int .i64 0, .int .i64 0] 27) = w4 at *
  obtain ⟨n1, hn1⟩ : ∃ n, numT (atW ws 1) = n := ⟨_, rfl⟩
  rw [hn1] at sm3 ⊢
  have HNN : Hid (numT (atW ws 1) = n1) := Lib.hid hn1
  clear hn1
  have SM4 := Lib.hid sm3
  have c0 : w4.cell? ⟨g, 0, none⟩ = some (.string ⟨#[100, 114, 97, 105, 110]⟩) := cellE_later HG0.out sm3.bel
  have dq := sm3.k1.at1
  have d4 := sm3.k4.at12
  have hr := Below.refl w4.heap.size w4
  clear sm3
  go_upto_region 7 with fail
  generalize hwn : ((((((((((((w4.setCell ⟨q4, 0, none⟩ (.int .i64 1)).setCell ⟨q4, 1, none⟩ (.int .i64 0)).setCell ⟨q4, 2, none⟩ (.int .i64 0)).setCell ⟨q4, 3, none⟩ (.int .i64 0)).setCell ⟨q4, 4, none⟩ (.string ⟨#[]⟩)).setCell ⟨q4, 5, none⟩ (.int .i64 0)).setCell ⟨q4, 6, none⟩ (.int .i64 0)).setCell ⟨q4, 7, none⟩ (.int .i64 0)).setCell ⟨q4, 8, none⟩ (.int .i64 0)).setCell ⟨q4, 9, none⟩ (.int .i64 0)).setCell ⟨q4, 10, none⟩ (.int .i64 0)).setCell ⟨q4, 11, none⟩ (.int .i64 0)) = w5
  have SM5 := Lib.hid (show SM w w5 q1 q2 q4 g cap ws #[.int .i64 1, .int .i64 0, .int .i64 0, .int .i64 0, .string ⟨#[]⟩, .int .i64 0, .int .i64 0, .int .i64 0, .int .i64 0, .int .i64 0, .int .i64 0, .int .i64 0] by rw [← hwn]; exact ((SM4.out).all (.int .i64 1) (.int .i64 0) (.int .i64 0) (.int .i64 0) (.string ⟨#[]⟩) (.int .i64 0) (.int .i64 0) (.int .i64 0) (.int .i64 0) (.int .i64 0) (.int .i64 0) (.int .i64 0)))
  clear hwn SM4 c0 dq d4 hr
  have c0 : w5.cell? ⟨g, 0, none⟩ = some (.string ⟨#[100, 114, 97, 105, 110]⟩) := cellE_later HG0.out SM5.out.bel
  have dq := SM5.out.k1.at1
  have d4 := SM5.out.k4.at12
  have hr := Below.refl w5.heap.size w5
  go_upto_region 9 with fail
  generalize hwn : (w5.setCell ⟨q4, 0, none⟩ (.int .i64 7)) = w6
  have SM6 := Lib.hid (show SM w w6 q1 q2 q4 g cap ws #[.int .i64 7, .int .i64 0, .int .i64 0, .int .i64 0, .string ⟨#[]⟩, .int .i64 0, .int .i64 0, .int .i64 0, .int .i64 0, .int .i64 0, .int .i64 0, .int .i64 0] by rw [← hwn]; exact ((SM5.out).set_ 0 (.int .i64 7)))
  clear hwn SM5 c0 dq d4 hr
  have c0 : w6.cell? ⟨g, 0, none⟩ = some (.string ⟨#[100, 114, 97, 105, 110]⟩) := cellE_later HG0.out SM6.out.bel
  have dq := SM6.out.k1.at1
  have d4 := SM6.out.k4.at12
  have hr := Below.refl w6.heap.size w6
  go_wp2_with fail
  refine (lAt1 q1 g cap ws _ (SM6.out).k1 (HW.out.later (SM6.out).bel) HL.out).mono ?_; rintro e wz ⟨rfl, rfl⟩
  go_wp2_with fail
  refine (tParseL (atW ws 1) (HZ.out 1) _ (HE.out.later (SM6.out).bel)).mono ?_; rintro e w7 ⟨rfl, hbn⟩
  have SM7 := Lib.hid ((SM6.out).later hbn)
  clear hbn SM6 c0 dq d4 hr
  have c0 : w7.cell? ⟨g, 0, none⟩ = some (.string ⟨#[100, 114, 97, 105, 110]⟩) := cellE_later HG0.out SM7.out.bel
  have dq := SM7.out.k1.at1
  have d4 := SM7.out.k4.at12
  have hr := Below.refl w7.heap.size w7
  go_upto_region 30 with fail
  generalize hwn : (w7.setCell ⟨q4, 3, none⟩ (.int .i64 ((parseT (atW ws 1)).1))) = w8
  have SM8 := Lib.hid (show SM w w8 q1 q2 q4 g cap ws #[.int .i64 7, .int .i64 0, .int .i64 0, .int .i64 ((parseT (atW ws 1)).1), .string ⟨#[]⟩, .int .i64 0, .int .i64 0, .int .i64 0, .int .i64 0, .int .i64 0, .int .i64 0, .int .i64 0] by rw [← hwn]; exact ((SM7.out).set_ 3 (.int .i64 ((parseT (atW ws 1)).1))))
  clear hwn SM7 c0 dq d4 hr
  have c0 : w8.cell? ⟨g, 0, none⟩ = some (.string ⟨#[100, 114, 97, 105, 110]⟩) := cellE_later HG0.out SM8.out.bel
  have dq := SM8.out.k1.at1
  have d4 := SM8.out.k4.at12
  have hr := Below.refl w8.heap.size w8
  have g2 : ∀ w', Below w8.heap.size w8 w' → _ := Blk.at12 SM8.out.k2
  have nq := SM8.out.n2
  simp only [ev0] at g2
  go_wp2_with fail
  generalize hwf : ((((((((((((w8.setCell ⟨q2, 0, none⟩ (.int .i64 7)).setCell ⟨q2, 1, none⟩ (.int .i64 0)).setCell ⟨q2, 2, none⟩ (.int .i64 0)).setCell ⟨q2, 3, none⟩ (.int .i64 ((parseT (atW ws 1)).1))).setCell ⟨q2, 4, none⟩ (.string ⟨#[]⟩)).setCell ⟨q2, 5, none⟩ (.int .i64 0)).setCell ⟨q2, 6, none⟩ (.int .i64 0)).setCell ⟨q2, 7, none⟩ (.int .i64 0)).setCell ⟨q2, 8, none⟩ (.int .i64 0)).setCell ⟨q2, 9, none⟩ (.int .i64 0)).setCell ⟨q2, 10, none⟩ (.int .i64 0)).setCell ⟨q2, 11, none⟩ (.int .i64 0)) = wf
  have kf : Blk wf q2 27 #[.int .i64 7, .int .i64 0, .int .i64 0, .int .i64 ((parseT (atW ws 1)).1), .string ⟨#[]⟩, .int .i64 0, .int .i64 0, .int .i64 0, .int .i64 0, .int .i64 0, .int .i64 0, .int .i64 0] := by rw [← hwf]; exact Blk.set12 SM8.out.k2 (.int .i64 7) (.int .i64 0) (.int .i64 0) (.int .i64 ((parseT (atW ws 1)).1)) (.string ⟨#[]⟩) (.int .i64 0) (.int .i64 0) (.int .i64 0) (.int .i64 0) (.int .i64 0) (.int .i64 0) (.int .i64 0)
  have hbf : Below w.heap.size w wf := by rw [← hwf]; exact below_set12 SM8.out.bel SM8.out.o2 (.int .i64 7) (.int .i64 0) (.int .i64 0) (.int .i64 ((parseT (atW ws 1)).1)) (.string ⟨#[]⟩) (.int .i64 0) (.int .i64 0) (.int .i64 0) (.int .i64 0) (.int .i64 0) (.int .i64 0) (.int .i64 0)
  have df := kf.at12
  have hrf := Below.refl wf.heap.size wf
  clear hwf g2 d4 dq c0 hr kf nq
  (try simp only [Exit.inBlock, Exit.then])
  refine bodyPost_ret (v := .agg #[.int .i64 7, .int .i64 0, .int .i64 0, .int .i64 ((parseT (atW ws 1)).1), .string ⟨#[]⟩, .int .i64 0, .int .i64 0, .int .i64 0, .int .i64 0, .int .i64 0, .int .i64 0, .int .i64 0]) ?_ rfl ⟨by (rw [HS.out]; try rw [HNN.out]), hbf⟩
  rw [results_cell_one rfl]
  go_simp

set_option maxHeartbeats 8000000 in
set_option maxRecDepth 100000 in
theorem lSome_open (ws : List (List UInt8)) (g cap : Nat) (w : World) (hw : WL w g ws) (hl : 1 ≤ ws.length ∧ ws.length ≤ 200000) (hz : ∀ x ∈ ws, x.length ≤ 100000) (he : EnvL w) (h0 : atW ws 0 = wOpen) :
    Calls Tryz.prog 66 #[.slice (some ⟨g, 0, none⟩) ws.length cap] w fun e w' => e = .returned (.agg (evC (someT ws))) ∧ Below w.heap.size w w' := by
  have HW := Lib.hid hw
  have HE := Lib.hid he
  have HZ := Lib.hid (fun k => atW_len hz k)
  have hl2 : ws.length ≤ 1000000 := by omega
  have HL := Lib.hid hl2
  have e0 : (0 : Int) < (ws.length : Int) := by omega
  have hc0 : ws[0]? = some (atW ws 0) := by
    unfold atW
    rw [List.getElem?_eq_getElem (by omega)]; rfl
  have hg0 := hw 0 (atW ws 0) hc0
  clear hw he hz hl hc0 hl2
  have HS := Lib.hid (show someT ws = ⟨2, numT (atW ws 1), numT (atW ws 2), 0, ⟨#[]⟩, 0, 0, 0, 0, 0, 0, 0⟩ by unfold someT; rw [h0]; rfl)
  have hg0 : w.cell? ⟨g, 0, none⟩ = some (.string ⟨#[111, 112, 101, 110]⟩) := by rw [hg0, h0]; rfl
  clear h0
  have HG0 := Lib.hid hg0
  clear hg0
  obtain ⟨w1, hw1⟩ : ∃ w1, (w.alloc (.cells #[.slice (some ⟨g, 0, none⟩) ws.length cap] 45)).alloc (.cells (evC ev0) 27) = w1 := ⟨_, rfl⟩
  have k1 : Blk w1 w.heap.size 45 #[.slice (some ⟨g, 0, none⟩) ws.length cap] := by rw [← hw1]; exact Blk.alloc (Blk.new _ _ _) _
  have k2 : Blk w1 (w.heap.size + 1) 27 (evC ev0) := by rw [← hw1]; simpa using Blk.new (w.alloc (.cells #[.slice (some ⟨g, 0, none⟩) ws.length cap] 45)) 27 (evC ev0)
  have hb1 : Below w.heap.size w w1 := by rw [← hw1]; exact ((Below.refl _ _).alloc (Nat.le_refl _) _).alloc (by simp) _
  have HW1 := Lib.hid hw1
  obtain ⟨q1, hq1⟩ : ∃ q, w.heap.size = q := ⟨_, rfl⟩
  obtain ⟨q2, hq2⟩ : ∃ q, q1 + 1 = q := ⟨_, rfl⟩
  rw [hq1] at k1 k2
  rw [hq2] at k2
  have HQ := Lib.hid (And.intro hq1 hq2)
  have HB1 := Lib.hid hb1
  have K1 := Lib.hid k1
  have K2 := Lib.hid k2
  clear hw1 hb1 k1 k2 hq1 hq2
  simp only [ev0] at HW1
  go_enter Tryz.func66, Tryz.ntmps66
  go_upto_region 1 with fail
  rw [HW1.out, HQ.out.1, HQ.out.2]
  go_wp2_with fail
  refine (lAt1 q1 g cap ws _ K1.out (HW.out.later HB1.out) HL.out).mono ?_; rintro e w2 ⟨rfl, rfl⟩
  go_wp2_with fail
  refine (lNumberL (atW ws 1) (HZ.out 1) _ (HE.out.later HB1.out)).mono ?_; rintro e w3 ⟨rfl, hb3⟩
  go_upto_region 3 with fail
  have sm3 := sm_start HQ.out (K1.out.later hb3) (K2.out.later hb3) (HB1.out.up hb3) (evC { ev0 with id := numT (atW ws 1) })
  clear hb3 K1 K2 HB1 HW1
  simp only [evC, ev0] at sm3
  obtain ⟨q4, hq4⟩ : ∃ q, w3.heap.size = q := ⟨_, rfl⟩
  rw [hq4] at sm3 ⊢
  clear hq4
  generalize w3.alloc (.cells #[.int .i64 0, .int .i64 (numT (atW ws 1)), .int .i64 0, .int .i64 0, .string ⟨#[]⟩, .int .i64 0, .int .i64 0, .int .i64 0, .int .i64 0, .int .i64 0, .int .i64 0, .int .i64 0] 27) = w4 at *
  obtain ⟨n1, hn1⟩ : ∃ n, numT (atW ws 1) = n := ⟨_, rfl⟩
  rw [hn1] at sm3 ⊢
  have HNN : Hid (numT (atW ws 1) = n1) := Lib.hid hn1
  clear hn1
  have SM4 := Lib.hid sm3
  have c0 : w4.cell? ⟨g, 0, none⟩ = some (.string ⟨#[111, 112, 101, 110]⟩) := cellE_later HG0.out sm3.bel
  have dq := sm3.k1.at1
  have d4 := sm3.k4.at12
  have hr := Below.refl w4.heap.size w4
  clear sm3
  go_wp2_with fail
  refine (lAt2 q1 g cap ws _ (SM4.out).k1 (HW.out.later (SM4.out).bel) HL.out).mono ?_; rintro e wz ⟨rfl, rfl⟩
  go_wp2_with fail
  refine (lNumberL (atW ws 2) (HZ.out 2) _ (HE.out.later (SM4.out).bel)).mono ?_; rintro e w5 ⟨rfl, hbn⟩
  have SM5 := Lib.hid ((SM4.out).later hbn)
  clear hbn SM4 c0 dq d4 hr
  have c0 : w5.cell? ⟨g, 0, none⟩ = some (.string ⟨#[111, 112, 101, 110]⟩) := cellE_later HG0.out SM5.out.bel
  have dq := SM5.out.k1.at1
  have d4 := SM5.out.k4.at12
  have hr := Below.refl w5.heap.size w5
  go_upto_region 30 with fail
  generalize hwn : ((w5.setCell ⟨q4, 0, none⟩ (.int .i64 2)).setCell ⟨q4, 2, none⟩ (.int .i64 (numT (atW ws 2)))) = w6
  have SM6 := Lib.hid (show SM w w6 q1 q2 q4 g cap ws #[.int .i64 2, .int .i64 n1, .int .i64 (numT (atW ws 2)), .int .i64 0, .string ⟨#[]⟩, .int .i64 0, .int .i64 0, .int .i64 0, .int .i64 0, .int .i64 0, .int .i64 0, .int .i64 0] by rw [← hwn]; exact (((SM5.out).set_ 0 (.int .i64 2)).set_ 2 (.int .i64 (numT (atW ws 2)))))
  clear hwn SM5 c0 dq d4 hr
  have c0 : w6.cell? ⟨g, 0, none⟩ = some (.string ⟨#[111, 112, 101, 110]⟩) := cellE_later HG0.out SM6.out.bel
  have dq := SM6.out.k1.at1
  have d4 := SM6.out.k4.at12
  have hr := Below.refl w6.heap.size w6
  have g2 : ∀ w', Below w6.heap.size w6 w' → _ := Blk.at12 SM6.out.k2
  have nq := SM6.out.n2
  simp only [ev0] at g2
  go_wp2_with fail
  generalize hwf : ((((((((((((w6.setCell ⟨q2, 0, none⟩ (.int .i64 2)).setCell ⟨q2, 1, none⟩ (.int .i64 n1)).setCell ⟨q2, 2, none⟩ (.int .i64 (numT (atW ws 2)))).setCell ⟨q2, 3, none⟩ (.int .i64 0)).setCell ⟨q2, 4, none⟩ (.string ⟨#[]⟩)).setCell ⟨q2, 5, none⟩ (.int .i64 0)).setCell ⟨q2, 6, none⟩ (.int .i64 0)).setCell ⟨q2, 7, none⟩ (.int .i64 0)).setCell ⟨q2, 8, none⟩ (.int .i64 0)).setCell ⟨q2, 9, none⟩ (.int .i64 0)).setCell ⟨q2, 10, none⟩ (.int .i64 0)).setCell ⟨q2, 11, none⟩ (.int .i64 0)) = wf
  have kf : Blk wf q2 27 #[.int .i64 2, .int .i64 n1, .int .i64 (numT (atW ws 2)), .int .i64 0, .string ⟨#[]⟩, .int .i64 0, .int .i64 0, .int .i64 0, .int .i64 0, .int .i64 0, .int .i64 0, .int .i64 0] := by rw [← hwf]; exact Blk.set12 SM6.out.k2 (.int .i64 2) (.int .i64 n1) (.int .i64 (numT (atW ws 2))) (.int .i64 0) (.string ⟨#[]⟩) (.int .i64 0) (.int .i64 0) (.int .i64 0) (.int .i64 0) (.int .i64 0) (.int .i64 0) (.int .i64 0)
  have hbf : Below w.heap.size w wf := by rw [← hwf]; exact below_set12 SM6.out.bel SM6.out.o2 (.int .i64 2) (.int .i64 n1) (.int .i64 (numT (atW ws 2))) (.int .i64 0) (.string ⟨#[]⟩) (.int .i64 0) (.int .i64 0) (.int .i64 0) (.int .i64 0) (.int .i64 0) (.int .i64 0) (.int .i64 0)
  have df := kf.at12
  have hrf := Below.refl wf.heap.size wf
  clear hwf g2 d4 dq c0 hr kf nq
  (try simp only [Exit.inBlock, Exit.then])
  refine bodyPost_ret (v := .agg #[.int .i64 2, .int .i64 n1, .int .i64 (numT (atW ws 2)), .int .i64 0, .string ⟨#[]⟩, .int .i64 0, .int .i64 0, .int .i64 0, .int .i64 0, .int .i64 0, .int .i64 0, .int .i64 0]) ?_ rfl ⟨by (rw [HS.out]; try rw [HNN.out]), hbf⟩
  rw [results_cell_one rfl]
  go_simp

set_option maxHeartbeats 8000000 in
set_option maxRecDepth 100000 in
theorem lSome_refuse (ws : List (List UInt8)) (g cap : Nat) (w : World) (hw : WL w g ws) (hl : 1 ≤ ws.length ∧ ws.length ≤ 200000) (hz : ∀ x ∈ ws, x.length ≤ 100000) (he : EnvL w) (h0 : atW ws 0 = wRefuse) :
    Calls Tryz.prog 66 #[.slice (some ⟨g, 0, none⟩) ws.length cap] w fun e w' => e = .returned (.agg (evC (someT ws))) ∧ Below w.heap.size w w' := by
  have HW := Lib.hid hw
  have HE := Lib.hid he
  have HZ := Lib.hid (fun k => atW_len hz k)
  have hl2 : ws.length ≤ 1000000 := by omega
  have HL := Lib.hid hl2
  have e0 : (0 : Int) < (ws.length : Int) := by omega
  have hc0 : ws[0]? = some (atW ws 0) := by
    unfold atW
    rw [List.getElem?_eq_getElem (by omega)]; rfl
  have hg0 := hw 0 (atW ws 0) hc0
  clear hw he hz hl hc0 hl2
  have HS := Lib.hid (show someT ws = ⟨3, numT (atW ws 1), numT (atW ws 2), 0, ⟨#[]⟩, numT (atW ws 3), 0, 0, 0, 0, 0, 0⟩ by unfold someT; rw [h0]; rfl)
  have hg0 : w.cell? ⟨g, 0, none⟩ = some (.string ⟨#[114, 101, 102, 117, 115, 101]⟩) := by rw [hg0, h0]; rfl
  clear h0
  have HG0 := Lib.hid hg0
  clear hg0
  obtain ⟨w1, hw1⟩ : ∃ w1, (w.alloc (.cells #[.slice (some ⟨g, 0, none⟩) ws.length cap] 45)).alloc (.cells (evC ev0) 27) = w1 := ⟨_, rfl⟩
  have k1 : Blk w1 w.heap.size 45 #[.slice (some ⟨g, 0, none⟩) ws.length cap] := by rw [← hw1]; exact Blk.alloc (Blk.new _ _ _) _
  have k2 : Blk w1 (w.heap.size + 1) 27 (evC ev0) := by rw [← hw1]; simpa using Blk.new (w.alloc (.cells #[.slice (some ⟨g, 0, none⟩) ws.length cap] 45)) 27 (evC ev0)
  have hb1 : Below w.heap.size w w1 := by rw [← hw1]; exact ((Below.refl _ _).alloc (Nat.le_refl _) _).alloc (by simp) _
  have HW1 := Lib.hid hw1
  obtain ⟨q1, hq1⟩ : ∃ q, w.heap.size = q := ⟨_, rfl⟩
  obtain ⟨q2, hq2⟩ : ∃ q, q1 + 1 = q := ⟨_, rfl⟩
  rw [hq1] at k1 k2
  rw [hq2] at k2
  have HQ := Lib.hid (And.intro hq1 hq2)
  have HB1 := Lib.hid hb1
  have K1 := Lib.hid k1
  have K2 := Lib.hid k2
  clear hw1 hb1 k1 k2 hq1 hq2
  simp only [ev0] at HW1
  go_enter Tryz.func66, Tryz.ntmps66
  go_upto_region 1 with fail
  rw [HW1.out, HQ.out.1, HQ.out.2]
  go_wp2_with fail
  refine (lAt1 q1 g cap ws _ K1.out (HW.out.later HB1.out) HL.out).mono ?_; rintro e w2 ⟨rfl, rfl⟩
  go_wp2_with fail
  refine (lNumberL (atW ws 1) (HZ.out 1) _ (HE.out.later HB1.out)).mono ?_; rintro e w3 ⟨rfl, hb3⟩
  go_upto_region 3 with fail
  have sm3 := sm_start HQ.out (K1.out.later hb3) (K2.out.later hb3) (HB1.out.up hb3) (evC { ev0 with id := numT (atW ws 1) })
  clear hb3 K1 K2 HB1 HW1
  simp only [evC, ev0] at sm3
  obtain ⟨q4, hq4⟩ : ∃ q, w3.heap.size = q := ⟨_, rfl⟩
  rw [hq4] at sm3 ⊢
  clear hq4
  generalize w3.alloc (.cells #[.int .i64 0, .int .i64 (numT (atW ws 1)), .int .i64 0, .int .i64 0, .string ⟨#[]⟩, .int .i64 0, .int .i64 0, .int .i64 0, .int .i64 0, .int .i64 0, .int .i64 0, .int .i64 0] 27) = w4 at *
  obtain ⟨n1, hn1⟩ : ∃ n, numT (atW ws 1) = n := ⟨_, rfl⟩
  rw [hn1] at sm3 ⊢
  have HNN : Hid (numT (atW ws 1) = n1) := Lib.hid hn1
  clear hn1
  have SM4 := Lib.hid sm3
  have c0 : w4.cell? ⟨g, 0, none⟩ = some (.string ⟨#[114, 101, 102, 117, 115, 101]⟩) := cellE_later HG0.out sm3.bel
  have dq := sm3.k1.at1
  have d4 := sm3.k4.at12
  have hr := Below.refl w4.heap.size w4
  clear sm3
  go_wp2_with fail
  refine (lAt2 q1 g cap ws _ (SM4.out).k1 (HW.out.later (SM4.out).bel) HL.out).mono ?_; rintro e wz ⟨rfl, rfl⟩
  go_wp2_with fail
  refine (lNumberL (atW ws 2) (HZ.out 2) _ (HE.out.later (SM4.out).bel)).mono ?_; rintro e w5 ⟨rfl, hbn⟩
  have SM5 := Lib.hid ((SM4.out).later hbn)
  clear hbn SM4 c0 dq d4 hr
  have c0 : w5.cell? ⟨g, 0, none⟩ = some (.string ⟨#[114, 101, 102, 117, 115, 101]⟩) := cellE_later HG0.out SM5.out.bel
  have dq := SM5.out.k1.at1
  have d4 := SM5.out.k4.at12
  have hr := Below.refl w5.heap.size w5
  go_wp2_with fail
  refine (lAt3 q1 g cap ws _ (SM5.out).k1 (HW.out.later (SM5.out).bel) HL.out).mono ?_; rintro e wz ⟨rfl, rfl⟩
  go_wp2_with fail
  refine (lNumberL (atW ws 3) (HZ.out 3) _ (HE.out.later (SM5.out).bel)).mono ?_; rintro e w6 ⟨rfl, hbn⟩
  have SM6 := Lib.hid ((SM5.out).later hbn)
  clear hbn SM5 c0 dq d4 hr
  have c0 : w6.cell? ⟨g, 0, none⟩ = some (.string ⟨#[114, 101, 102, 117, 115, 101]⟩) := cellE_later HG0.out SM6.out.bel
  have dq := SM6.out.k1.at1
  have d4 := SM6.out.k4.at12
  have hr := Below.refl w6.heap.size w6
  go_upto_region 30 with fail
  generalize hwn : (((w6.setCell ⟨q4, 0, none⟩ (.int .i64 3)).setCell ⟨q4, 2, none⟩ (.int .i64 (numT (atW ws 2)))).setCell ⟨q4, 5, none⟩ (.int .i64 (numT (atW ws 3)))) = w7
  have SM7 := Lib.hid (show SM w w7 q1 q2 q4 g cap ws #[.int .i64 3, .int .i64 n1, .int .i64 (numT (atW ws 2)), .int .i64 0, .string ⟨#[]⟩, .int .i64 (numT (atW ws 3)), .int .i64 0, .int .i64 0, .int .i64 0, .int .i64 0, .int .i64 0, .int .i64 0] by rw [← hwn]; exact ((((SM6.out).set_ 0 (.int .i64 3)).set_ 2 (.int .i64 (numT (atW ws 2)))).set_ 5 (.int .i64 (numT (atW ws 3)))))
  clear hwn SM6 c0 dq d4 hr
  have c0 : w7.cell? ⟨g, 0, none⟩ = some (.string ⟨#[114, 101, 102, 117, 115, 101]⟩) := cellE_later HG0.out SM7.out.bel
  have dq := SM7.out.k1.at1
  have d4 := SM7.out.k4.at12
  have hr := Below.refl w7.heap.size w7
  have g2 : ∀ w', Below w7.heap.size w7 w' → _ := Blk.at12 SM7.out.k2
  have nq := SM7.out.n2
  simp only [ev0] at g2
  go_wp2_with fail
  generalize hwf : ((((((((((((w7.setCell ⟨q2, 0, none⟩ (.int .i64 3)).setCell ⟨q2, 1, none⟩ (.int .i64 n1)).setCell ⟨q2, 2, none⟩ (.int .i64 (numT (atW ws 2)))).setCell ⟨q2, 3, none⟩ (.int .i64 0)).setCell ⟨q2, 4, none⟩ (.string ⟨#[]⟩)).setCell ⟨q2, 5, none⟩ (.int .i64 (numT (atW ws 3)))).setCell ⟨q2, 6, none⟩ (.int .i64 0)).setCell ⟨q2, 7, none⟩ (.int .i64 0)).setCell ⟨q2, 8, none⟩ (.int .i64 0)).setCell ⟨q2, 9, none⟩ (.int .i64 0)).setCell ⟨q2, 10, none⟩ (.int .i64 0)).setCell ⟨q2, 11, none⟩ (.int .i64 0)) = wf
  have kf : Blk wf q2 27 #[.int .i64 3, .int .i64 n1, .int .i64 (numT (atW ws 2)), .int .i64 0, .string ⟨#[]⟩, .int .i64 (numT (atW ws 3)), .int .i64 0, .int .i64 0, .int .i64 0, .int .i64 0, .int .i64 0, .int .i64 0] := by rw [← hwf]; exact Blk.set12 SM7.out.k2 (.int .i64 3) (.int .i64 n1) (.int .i64 (numT (atW ws 2))) (.int .i64 0) (.string ⟨#[]⟩) (.int .i64 (numT (atW ws 3))) (.int .i64 0) (.int .i64 0) (.int .i64 0) (.int .i64 0) (.int .i64 0) (.int .i64 0)
  have hbf : Below w.heap.size w wf := by rw [← hwf]; exact below_set12 SM7.out.bel SM7.out.o2 (.int .i64 3) (.int .i64 n1) (.int .i64 (numT (atW ws 2))) (.int .i64 0) (.string ⟨#[]⟩) (.int .i64 (numT (atW ws 3))) (.int .i64 0) (.int .i64 0) (.int .i64 0) (.int .i64 0) (.int .i64 0) (.int .i64 0)
  have df := kf.at12
  have hrf := Below.refl wf.heap.size wf
  clear hwf g2 d4 dq c0 hr kf nq
  (try simp only [Exit.inBlock, Exit.then])
  refine bodyPost_ret (v := .agg #[.int .i64 3, .int .i64 n1, .int .i64 (numT (atW ws 2)), .int .i64 0, .string ⟨#[]⟩, .int .i64 (numT (atW ws 3)), .int .i64 0, .int .i64 0, .int .i64 0, .int .i64 0, .int .i64 0, .int .i64 0]) ?_ rfl ⟨by (rw [HS.out]; try rw [HNN.out]), hbf⟩
  rw [results_cell_one rfl]
  go_simp

set_option maxHeartbeats 8000000 in
set_option maxRecDepth 100000 in
theorem lSome_read (ws : List (List UInt8)) (g cap : Nat) (w : World) (hw : WL w g ws) (hl : 1 ≤ ws.length ∧ ws.length ≤ 200000) (hz : ∀ x ∈ ws, x.length ≤ 100000) (he : EnvL w) (h0 : atW ws 0 = wRead) :
    Calls Tryz.prog 66 #[.slice (some ⟨g, 0, none⟩) ws.length cap] w fun e w' => e = .returned (.agg (evC (someT ws))) ∧ Below w.heap.size w w' := by
  have HW := Lib.hid hw
  have HE := Lib.hid he
  have HZ := Lib.hid (fun k => atW_len hz k)
  have hl2 : ws.length ≤ 1000000 := by omega
  have HL := Lib.hid hl2
  have e0 : (0 : Int) < (ws.length : Int) := by omega
  have hc0 : ws[0]? = some (atW ws 0) := by
    unfold atW
    rw [List.getElem?_eq_getElem (by omega)]; rfl
  have hg0 := hw 0 (atW ws 0) hc0
  clear hw he hz hl hc0 hl2
  have HS := Lib.hid (show someT ws = ⟨4, numT (atW ws 1), ((wholeL (atW ws 2)).length : Int), 0, ⟨(wholeL (atW ws 2)).toArray⟩, 0, 0, 0, 0, 0, 0, 0⟩ by unfold someT; rw [h0]; rfl)
  have hg0 : w.cell? ⟨g, 0, none⟩ = some (.string ⟨#[114, 101, 97, 100]⟩) := by rw [hg0, h0]; rfl
  clear h0
  have HG0 := Lib.hid hg0
  clear hg0
  obtain ⟨w1, hw1⟩ : ∃ w1, (w.alloc (.cells #[.slice (some ⟨g, 0, none⟩) ws.length cap] 45)).alloc (.cells (evC ev0) 27) = w1 := ⟨_, rfl⟩
  have k1 : Blk w1 w.heap.size 45 #[.slice (some ⟨g, 0, none⟩) ws.length cap] := by rw [← hw1]; exact Blk.alloc (Blk.new _ _ _) _
  have k2 : Blk w1 (w.heap.size + 1) 27 (evC ev0) := by rw [← hw1]; simpa using Blk.new (w.alloc (.cells #[.slice (some ⟨g, 0, none⟩) ws.length cap] 45)) 27 (evC ev0)
  have hb1 : Below w.heap.size w w1 := by rw [← hw1]; exact ((Below.refl _ _).alloc (Nat.le_refl _) _).alloc (by simp) _
  have HW1 := Lib.hid hw1
  obtain ⟨q1, hq1⟩ : ∃ q, w.heap.size = q := ⟨_, rfl⟩
  obtain ⟨q2, hq2⟩ : ∃ q, q1 + 1 = q := ⟨_, rfl⟩
  rw [hq1] at k1 k2
  rw [hq2] at k2
  have HQ := Lib.hid (And.intro hq1 hq2)
  have HB1 := Lib.hid hb1
  have K1 := Lib.hid k1
  have K2 := Lib.hid k2
  clear hw1 hb1 k1 k2 hq1 hq2
  simp only [ev0] at HW1
  go_enter Tryz.func66, Tryz.ntmps66
  go_upto_region 1 with fail
  rw [HW1.out, HQ.out.1, HQ.out.2]
  go_wp2_with fail
  refine (lAt1 q1 g cap ws _ K1.out (HW.out.later HB1.out) HL.out).mono ?_; rintro e w2 ⟨rfl, rfl⟩
  go_wp2_with fail
  refine (lNumberL (atW ws 1) (HZ.out 1) _ (HE.out.later HB1.out)).mono ?_; rintro e w3 ⟨rfl, hb3⟩
  go_upto_region 3 with fail
  have sm3 := sm_start HQ.out (K1.out.later hb3) (K2.out.later hb3) (HB1.out.up hb3) (evC { ev0 with id := numT (atW ws 1) })
  clear hb3 K1 K2 HB1 HW1
  simp only [evC, ev0] at sm3
  obtain ⟨q4, hq4⟩ : ∃ q, w3.heap.size = q := ⟨_, rfl⟩
  rw [hq4] at sm3 ⊢
  clear hq4
  generalize w3.alloc (.cells #[.int .i64 0, .int .i64 (numT (atW ws 1)), .int .i64 0, .int .i64 0, .string ⟨#[]⟩, .int .i64 0, .int .i64 0, .int .i64 0, .int .i64 0, .int .i64 0, .int .i64 0, .int .i64 0] 27) = w4 at *
  obtain ⟨n1, hn1⟩ : ∃ n, numT (atW ws 1) = n := ⟨_, rfl⟩
  rw [hn1] at sm3 ⊢
  have HNN : Hid (numT (atW ws 1) = n1) := Lib.hid hn1
  clear hn1
  have SM4 := Lib.hid sm3
  have c0 : w4.cell? ⟨g, 0, none⟩ = some (.string ⟨#[114, 101, 97, 100]⟩) := cellE_later HG0.out sm3.bel
  have dq := sm3.k1.at1
  have d4 := sm3.k4.at12
  have hr := Below.refl w4.heap.size w4
  clear sm3
  go_upto_region 17 with fail
  generalize hwn : (w4.setCell ⟨q4, 0, none⟩ (.int .i64 4)) = w5
  have SM5 := Lib.hid (show SM w w5 q1 q2 q4 g cap ws #[.int .i64 4, .int .i64 n1, .int .i64 0, .int .i64 0, .string ⟨#[]⟩, .int .i64 0, .int .i64 0, .int .i64 0, .int .i64 0, .int .i64 0, .int .i64 0, .int .i64 0] by rw [← hwn]; exact ((SM4.out).set_ 0 (.int .i64 4)))
  clear hwn SM4 c0 dq d4 hr
  have c0 : w5.cell? ⟨g, 0, none⟩ = some (.string ⟨#[114, 101, 97, 100]⟩) := cellE_later HG0.out SM5.out.bel
  have dq := SM5.out.k1.at1
  have d4 := SM5.out.k4.at12
  have hr := Below.refl w5.heap.size w5
  go_upto_region 19 with fail
  go_wp2_with fail
  refine (lAt2 q1 g cap ws _ (SM5.out).k1 (HW.out.later (SM5.out).bel) HL.out).mono ?_; rintro e wz ⟨rfl, rfl⟩
  go_wp2_with fail
  refine (qWholeL (atW ws 2) (HZ.out 2) _).mono ?_; rintro e w6 ⟨er, rfl, hbn⟩
  have SM6 := Lib.hid ((SM5.out).later hbn)
  clear hbn SM5 c0 dq d4 hr
  have c0 : w6.cell? ⟨g, 0, none⟩ = some (.string ⟨#[114, 101, 97, 100]⟩) := cellE_later HG0.out SM6.out.bel
  have dq := SM6.out.k1.at1
  have d4 := SM6.out.k4.at12
  have hr := Below.refl w6.heap.size w6
  go_upto_region 20 with fail
  generalize hwn : (w6.setCell ⟨q4, 4, none⟩ (.string ⟨(wholeL (atW ws 2)).toArray⟩)) = w7
  have SM7 := Lib.hid (show SM w w7 q1 q2 q4 g cap ws #[.int .i64 4, .int .i64 n1, .int .i64 0, .int .i64 0, .string ⟨(wholeL (atW ws 2)).toArray⟩, .int .i64 0, .int .i64 0, .int .i64 0, .int .i64 0, .int .i64 0, .int .i64 0, .int .i64 0] by rw [← hwn]; exact ((SM6.out).set_ 4 (.string ⟨(wholeL (atW ws 2)).toArray⟩)))
  clear hwn SM6 c0 dq d4 hr
  have c0 : w7.cell? ⟨g, 0, none⟩ = some (.string ⟨#[114, 101, 97, 100]⟩) := cellE_later HG0.out SM7.out.bel
  have dq := SM7.out.k1.at1
  have d4 := SM7.out.k4.at12
  have hr := Below.refl w7.heap.size w7
  go_upto_region 30 with fail
  generalize hwn : (w7.setCell ⟨q4, 2, none⟩ (.int .i64 (((wholeL (atW ws 2)).length : Int)))) = w8
  have SM8 := Lib.hid (show SM w w8 q1 q2 q4 g cap ws #[.int .i64 4, .int .i64 n1, .int .i64 (((wholeL (atW ws 2)).length : Int)), .int .i64 0, .string ⟨(wholeL (atW ws 2)).toArray⟩, .int .i64 0, .int .i64 0, .int .i64 0, .int .i64 0, .int .i64 0, .int .i64 0, .int .i64 0] by rw [← hwn]; exact ((SM7.out).set_ 2 (.int .i64 (((wholeL (atW ws 2)).length : Int)))))
  clear hwn SM7 c0 dq d4 hr
  have c0 : w8.cell? ⟨g, 0, none⟩ = some (.string ⟨#[114, 101, 97, 100]⟩) := cellE_later HG0.out SM8.out.bel
  have dq := SM8.out.k1.at1
  have d4 := SM8.out.k4.at12
  have hr := Below.refl w8.heap.size w8
  have g2 : ∀ w', Below w8.heap.size w8 w' → _ := Blk.at12 SM8.out.k2
  have nq := SM8.out.n2
  simp only [ev0] at g2
  go_wp2_with fail
  generalize hwf : ((((((((((((w8.setCell ⟨q2, 0, none⟩ (.int .i64 4)).setCell ⟨q2, 1, none⟩ (.int .i64 n1)).setCell ⟨q2, 2, none⟩ (.int .i64 (((wholeL (atW ws 2)).length : Int)))).setCell ⟨q2, 3, none⟩ (.int .i64 0)).setCell ⟨q2, 4, none⟩ (.string ⟨(wholeL (atW ws 2)).toArray⟩)).setCell ⟨q2, 5, none⟩ (.int .i64 0)).setCell ⟨q2, 6, none⟩ (.int .i64 0)).setCell ⟨q2, 7, none⟩ (.int .i64 0)).setCell ⟨q2, 8, none⟩ (.int .i64 0)).setCell ⟨q2, 9, none⟩ (.int .i64 0)).setCell ⟨q2, 10, none⟩ (.int .i64 0)).setCell ⟨q2, 11, none⟩ (.int .i64 0)) = wf
  have kf : Blk wf q2 27 #[.int .i64 4, .int .i64 n1, .int .i64 (((wholeL (atW ws 2)).length : Int)), .int .i64 0, .string ⟨(wholeL (atW ws 2)).toArray⟩, .int .i64 0, .int .i64 0, .int .i64 0, .int .i64 0, .int .i64 0, .int .i64 0, .int .i64 0] := by rw [← hwf]; exact Blk.set12 SM8.out.k2 (.int .i64 4) (.int .i64 n1) (.int .i64 (((wholeL (atW ws 2)).length : Int))) (.int .i64 0) (.string ⟨(wholeL (atW ws 2)).toArray⟩) (.int .i64 0) (.int .i64 0) (.int .i64 0) (.int .i64 0) (.int .i64 0) (.int .i64 0) (.int .i64 0)
  have hbf : Below w.heap.size w wf := by rw [← hwf]; exact below_set12 SM8.out.bel SM8.out.o2 (.int .i64 4) (.int .i64 n1) (.int .i64 (((wholeL (atW ws 2)).length : Int))) (.int .i64 0) (.string ⟨(wholeL (atW ws 2)).toArray⟩) (.int .i64 0) (.int .i64 0) (.int .i64 0) (.int .i64 0) (.int .i64 0) (.int .i64 0) (.int .i64 0)
  have df := kf.at12
  have hrf := Below.refl wf.heap.size wf
  clear hwf g2 d4 dq c0 hr kf nq
  (try simp only [Exit.inBlock, Exit.then])
  refine bodyPost_ret (v := .agg #[.int .i64 4, .int .i64 n1, .int .i64 (((wholeL (atW ws 2)).length : Int)), .int .i64 0, .string ⟨(wholeL (atW ws 2)).toArray⟩, .int .i64 0, .int .i64 0, .int .i64 0, .int .i64 0, .int .i64 0, .int .i64 0, .int .i64 0]) ?_ rfl ⟨by (rw [HS.out]; try rw [HNN.out]), hbf⟩
  rw [results_cell_one rfl]
  go_simp
end Go.Proofs.YtmnkekepccdlcaaGreatDoor
