/-
  Which rounds may be, as the reference tells it.
  Conditions: the round's rows lie in the world.
-/
import Derived.Test.YtmnkekepccdlcaaGreatDoorWgG
import Derived.Test.YtmnkekepccdlcaaGreatDoorWgF
import Derived.Test.YtmnkekepccdlcaaGreatDoorWgI
import Derived.Test.YtmnkekepccdlcaaGreatDoorWgC
import Derived.BigQuiet
namespace Go.Proofs.YtmnkekepccdlcaaGreatDoor
set_option linter.unusedVariables false
set_option linter.unusedSimpArgs false
open Go.RowKit

theorem all_no {α : Type} {l : List α} {p : α → Bool} {k : Nat} (h : k < l.length) (hp : p l[k] = false) : l.all p = false := by
  rw [List.all_eq_false]
  exact ⟨l[k], List.getElem_mem h, by simp [hp]⟩
theorem all_take {α : Type} {l : List α} {p : α → Bool} {k : Nat} (h : k < l.length) (h0 : (l.take k).all p = true) (hp : p l[k] = true) : (l.take (k + 1)).all p = true := by
  rw [List.take_succ_eq_append_getElem h, List.all_append, h0]
  simp [hp]
theorem good_no1 {r : Rd} (h : r.opens.all (fun n => inT n 0 63) = false) : goodR r = false := by
  unfold goodR
  rw [h]
  simp only [Bool.and_false, Bool.false_and]
theorem good_no2 {r : Rd} (h : r.offers.all goodO = false) : goodR r = false := by
  unfold goodR
  rw [h]
  simp only [Bool.and_false, Bool.false_and]
theorem good_no3 {r : Rd} (h : r.reports.all goodP = false) : goodR r = false := by
  unfold goodR
  rw [h]
  simp only [Bool.and_false]
theorem inT_no {x a b : Int} (h : x < a ∨ b < x) : inT x a b = false := by
  unfold inT
  rcases h with h | h
  · rw [decide_eq_false (by omega), Bool.false_and]
  · rw [decide_eq_false (p := x ≤ b) (by omega), Bool.and_false]
theorem inT_ok {x a b : Int} (h : ¬ x < a) (k : ¬ b < x) : inT x a b = true := by
  unfold inT
  rw [decide_eq_true (by omega), decide_eq_true (by omega)]
  rfl

set_option maxHeartbeats 8000000 in
set_option maxRecDepth 100000 in
theorem gGood (h : Hd) (r : Rd) (w : World) (ha : RAt w h r) (hs : Sml 1000000 [r]) : Calls Tryz.prog 33 #[.agg (rC h r).toArray] w fun e w' => e = .returned (.bool (goodR r)) ∧ Below w.heap.size w w' := by
  obtain ⟨w0, hw0⟩ : ∃ w0, w.alloc (.cells (rC h r).toArray 59) = w0 := ⟨_, rfl⟩
  have k0 : Blk w0 w.heap.size 59 (rC h r).toArray := by rw [← hw0]; exact Blk.new _ _ _
  have b0 : Below w.heap.size w w0 := by rw [← hw0]; exact (Below.refl _ _).alloc (Nat.le_refl _) _
  have a0 := ha.later b0
  have hsr := hs.2 r (by simp)
  obtain ⟨hs1, hs2, hs3⟩ := hsr
  have HW0 := Lib.hid hw0
  unfold rC at k0 HW0 ⊢
  have A1 := Lib.hid a0.os
  have A2 := Lib.hid a0.fs
  have A3 := Lib.hid a0.ps
  have KK := Lib.hid k0
  obtain ⟨oa, oc, fa, fc, pa, pc⟩ := h
  simp only at A1 A2 A3 KK HW0 ⊢
  have B0 := Lib.hid b0
  clear hw0 ha hs k0 a0 b0
  go_enter Tryz.func33, Tryz.ntmps33
  go_upto_region 1 with fail
  rw [HW0.out]
  go_wp2_with fail
  go_loopw [3] (fun iv wr => ∃ k : Nat, iv = .int .i64 k ∧ k ≤ r.opens.length ∧ Hid ((r.opens.take k).all (fun n => inT n 0 63) = true) ∧ Below w0.heap.size w0 wr) (fun iv _ => r.opens.length - (intOf iv).toNat)
  case atStart => exact ⟨0, rfl, Nat.zero_le _, Lib.hid rfl, Below.refl _ _⟩
  case round =>
    obtain ⟨k, rfl, hk, hA, hbw⟩ := hrel
    have e0 : (0 : Int) ≤ (k : Int) := by omega
    have dq := (KK.out.later hbw).at6
    have hr := Below.refl wr.heap.size wr
    by_cases hlt : k < r.opens.length
    · have e1 : (k : Int) < (r.opens.length : Int) := by omega
      obtain ⟨g, off, rfl, d0⟩ := A1.out k hlt
      have d := d0 wr hbw
      have HN : Hid (inT r.opens[k] 0 63 = false → goodR r = false) := Lib.hid fun e => good_no1 (all_no hlt e)
      have HY : Hid (inT r.opens[k] 0 63 = true → (r.opens.take (k + 1)).all (fun n => inT n 0 63) = true) := Lib.hid fun e => all_take hlt hA.out e
      generalize r.opens[k] = x at *
      clear d0 hA
      by_cases c1 : x < 0
      · have HG := Lib.hid (HN.out (inT_no (.inl c1)))
        go_wp2_with fail
        go_ret
        exact ⟨by rw [HG.out]; rfl, B0.out.up hbw⟩
      by_cases c2 : 63 < x
      · have HG := Lib.hid (HN.out (inT_no (.inr c2)))
        go_wp2_with fail
        go_ret
        exact ⟨by rw [HG.out]; rfl, B0.out.up hbw⟩
      have HA := Lib.hid (HY.out (inT_ok c1 c2))
      go_wp2_with fail
      go_roundw
      case rel => exact ⟨k + 1, by go_num, by omega, HA, hbw⟩
      case measure => simp [intOf]; omega
    · obtain rfl : k = r.opens.length := by omega
      have e1 : ¬ ((r.opens.length : Int) < (r.opens.length : Int)) := by omega
      have hA2 := hA.out
      rw [List.take_length] at hA2
      have HO := Lib.hid hA2
      clear hA hA2 e0 e1 hk hlt A1
      go_wp2_with fail
      have hb1 := hbw
      clear hbw dq hr
      go_loopw [4] (fun iv wx => ∃ k : Nat, iv = .int .i64 k ∧ k ≤ r.offers.length ∧ Hid ((r.offers.take k).all goodO = true) ∧ Below w0.heap.size w0 wx) (fun iv _ => r.offers.length - (intOf iv).toNat)
      case atStart => exact ⟨0, rfl, Nat.zero_le _, Lib.hid rfl, hb1⟩
      case round =>
        obtain ⟨k, rfl, hk, hA, hbw⟩ := hrel
        clear hb1
        have e0 : (0 : Int) ≤ (k : Int) := by omega
        have dq := (KK.out.later hbw).at6
        have hr := Below.refl wr.heap.size wr
        by_cases hlt : k < r.offers.length
        · have e1 : (k : Int) < (r.offers.length : Int) := by omega
          obtain ⟨g, off, rfl, d0⟩ := A2.out k hlt
          have d := d0 wr hbw
          have HN : Hid (goodO r.offers[k] = false → goodR r = false) := Lib.hid fun e => good_no2 (all_no hlt e)
          have HY : Hid (goodO r.offers[k] = true → (r.offers.take (k + 1)).all goodO = true) := Lib.hid fun e => all_take hlt hA.out e
          generalize r.offers[k] = x at *
          obtain ⟨xi, xb, xe⟩ := x
          simp only at d HN HY
          unfold goodO at HN HY
          simp only at HN HY
          clear d0 hA
          by_cases c1 : xi < 0
          · have HG := Lib.hid (HN.out (by rw [inT_no (.inl c1), Bool.false_and]))
            go_wp2_with fail
            go_ret
            exact ⟨by rw [HG.out]; rfl, B0.out.up hbw⟩
          by_cases c2 : 4095 < xi
          · have HG := Lib.hid (HN.out (by rw [inT_no (.inr c2), Bool.false_and]))
            go_wp2_with fail
            go_ret
            exact ⟨by rw [HG.out]; rfl, B0.out.up hbw⟩
          by_cases c3 : (256 : Int) < (xb.size : Int)
          · have HG := Lib.hid (HN.out (by rw [decide_eq_false (p := xb.size ≤ 256) (by omega), Bool.and_false]))
            go_wp2_with fail
            go_ret
            exact ⟨by rw [HG.out]; rfl, B0.out.up hbw⟩
          have HA := Lib.hid (HY.out (by rw [inT_ok c1 c2, decide_eq_true (p := xb.size ≤ 256) (by omega)]; rfl))
          go_wp2_with fail
          go_roundw
          case rel => exact ⟨k + 1, by go_num, by omega, HA, hbw⟩
          case measure => simp [intOf]; omega
        · obtain rfl : k = r.offers.length := by omega
          have e1 : ¬ ((r.offers.length : Int) < (r.offers.length : Int)) := by omega
          have hA2 := hA.out
          rw [List.take_length] at hA2
          have HF := Lib.hid hA2
          clear hA hA2 e0 e1 hk hlt A2
          go_wp2_with fail
          have hb1 := hbw
          clear hbw dq hr
          go_loopw [5] (fun iv wy => ∃ k : Nat, iv = .int .i64 k ∧ k ≤ r.reports.length ∧ Hid ((r.reports.take k).all goodP = true) ∧ Below w0.heap.size w0 wy) (fun iv _ => r.reports.length - (intOf iv).toNat)
          case atStart => exact ⟨0, rfl, Nat.zero_le _, Lib.hid rfl, hb1⟩
          case round =>
            obtain ⟨k, rfl, hk, hA, hbw⟩ := hrel
            clear hb1
            have e0 : (0 : Int) ≤ (k : Int) := by omega
            have dq := (KK.out.later hbw).at6
            have hr := Below.refl wr.heap.size wr
            by_cases hlt : k < r.reports.length
            · have e1 : (k : Int) < (r.reports.length : Int) := by omega
              obtain ⟨g, off, rfl, d0⟩ := A3.out k hlt
              have d := d0 wr hbw
              have HN : Hid (goodP r.reports[k] = false → goodR r = false) := Lib.hid fun e => good_no3 (all_no hlt e)
              have HY : Hid (goodP r.reports[k] = true → (r.reports.take (k + 1)).all goodP = true) := Lib.hid fun e => all_take hlt hA.out e
              generalize r.reports[k] = x at *
              obtain ⟨xi, xr, xw, xa⟩ := x
              simp only at d HN HY
              unfold goodP at HN HY
              simp only at HN HY
              clear d0 hA
              obtain ⟨wz, hwz⟩ : ∃ wz, wr.alloc (.cells #[.int .i64 xi, .bool xr, .bool xw, .int .i64 xa] 95) = wz := ⟨_, rfl⟩
              have kz : Blk wz wr.heap.size 95 #[.int .i64 xi, .bool xr, .bool xw, .int .i64 xa] := by rw [← hwz]; exact Blk.new _ _ _
              have bz : Below wr.heap.size wr wz := by rw [← hwz]; exact (Below.refl _ _).alloc (Nat.le_refl _) _
              have HZ := Lib.hid hwz
              have hbz := hbw.up bz
              have HBZ := Lib.hid (hbw.up bz)
              clear hwz
              go_upto_region 15 with fail
              rw [HZ.out]
              have dz := kz.at4
              have hr2 := Below.refl wz.heap.size wz
              clear d dq hr bz
              by_cases c1 : xi < 0
              · have HG := Lib.hid (HN.out (by rw [inT_no (.inl c1)]; simp only [Bool.false_and]))
                go_wp2_with fail
                go_ret
                exact ⟨by rw [HG.out]; rfl, B0.out.up HBZ.out⟩
              by_cases c2 : 4095 < xi
              · have HG := Lib.hid (HN.out (by rw [inT_no (.inr c2)]; simp only [Bool.false_and]))
                go_wp2_with fail
                go_ret
                exact ⟨by rw [HG.out]; rfl, B0.out.up HBZ.out⟩
              by_cases c0 : xr = false ∧ xw = false
              · obtain ⟨rfl, rfl⟩ := c0
                have HG := Lib.hid (HN.out (by simp only [Bool.or_self, Bool.and_false, Bool.false_and]))
                go_wp2_with fail
                go_ret
                exact ⟨by rw [HG.out]; rfl, B0.out.up HBZ.out⟩
              have hor : (xr || xw) = true := by cases xr <;> cases xw <;> simp at c0 ⊢
              by_cases c3 : xa < 0
              · have HG := Lib.hid (HN.out (by rw [inT_no (.inl c3)]; simp only [Bool.and_false, Bool.false_and]))
                cases xr <;> cases xw <;> first | (exfalso; simp at hor; done) | skip
                all_goals (
                  clear hor c0
                  go_wp2_with fail
                  go_ret
                  exact ⟨by rw [HG.out]; rfl, B0.out.up HBZ.out⟩)
              by_cases c4 : 4096 < xa
              · have HG := Lib.hid (HN.out (by rw [inT_no (a := 0) (.inr c4)]; simp only [Bool.and_false, Bool.false_and]))
                cases xr <;> cases xw <;> first | (exfalso; simp at hor; done) | skip
                all_goals (
                  clear hor c0
                  go_wp2_with fail
                  go_ret
                  exact ⟨by rw [HG.out]; rfl, B0.out.up HBZ.out⟩)
              by_cases c5 : xw = false ∧ ¬ xa = 0
              · obtain ⟨rfl, c5⟩ := c5
                have HG := Lib.hid (HN.out (by rw [decide_eq_false c5]; simp only [Bool.or_self, Bool.and_false]))
                obtain rfl : xr = true := by simpa using hor
                clear hor c0
                have c6 := ne_b c5
                go_wp2_with fail
                go_ret
                exact ⟨by rw [HG.out]; rfl, B0.out.up HBZ.out⟩
              have HA := Lib.hid (HY.out (by
                rw [inT_ok c1 c2, inT_ok c3 c4, hor]
                cases xw
                · rw [decide_eq_true (show xa = 0 by simpa using c5)]; rfl
                · rfl))
              cases xw
              · obtain rfl : xr = true := by simpa using hor
                obtain rfl : xa = 0 := by simpa using c5
                clear hor c0 c5
                go_wp2_with fail
                go_roundw
                case rel => exact ⟨k + 1, by go_num, by omega, HA, hbz⟩
                case measure => simp [intOf]; omega
              · cases xr
                all_goals (
                  clear hor c0 c5
                  go_wp2_with fail
                  go_roundw
                  case rel => exact ⟨k + 1, by go_num, by omega, HA, hbz⟩
                  case measure => simp [intOf]; omega)
            · obtain rfl : k = r.reports.length := by omega
              have e1 : ¬ ((r.reports.length : Int) < (r.reports.length : Int)) := by omega
              have hA2 := hA.out
              rw [List.take_length] at hA2
              have hg : goodR r = (decide (0 ≤ r.ticks) && decide (r.ticks ≤ 1000000000000) && (decide (0 ≤ r.drain) && decide (r.drain ≤ 1000000000001))) := by
                unfold goodR
                rw [hA2, HF.out, HO.out]
                simp only [Bool.and_true]
                rfl
              have HGR := Lib.hid hg
              have HBE := Lib.hid (B0.out.up hbw)
              clear hA hA2 hg hbw
              by_cases c1 : 0 ≤ r.ticks
              · by_cases c2 : r.ticks ≤ 1000000000000
                · by_cases c3 : 0 ≤ r.drain
                  · by_cases c4 : r.drain ≤ 1000000000001
                    · have HE := Lib.hid (show goodR r = true by rw [HGR.out]; simp [c1, c2, c3, c4])
                      go_wp2_with fail
                      go_ret
                      exact ⟨by rw [HE.out]; rfl, HBE.out⟩
                    · have HE := Lib.hid (show goodR r = false by rw [HGR.out]; simp [c1, c2, c3, c4])
                      go_wp2_with fail
                      go_ret
                      exact ⟨by rw [HE.out]; rfl, HBE.out⟩
                  · have HE := Lib.hid (show goodR r = false by rw [HGR.out]; simp [c1, c2, c3])
                    go_wp2_with fail
                    go_ret
                    exact ⟨by rw [HE.out]; rfl, HBE.out⟩
                · have HE := Lib.hid (show goodR r = false by rw [HGR.out]; simp [c1, c2])
                  go_wp2_with fail
                  go_ret
                  exact ⟨by rw [HE.out]; rfl, HBE.out⟩
              · have HE := Lib.hid (show goodR r = false by rw [HGR.out]; simp [c1])
                go_wp2_with fail
                go_ret
                exact ⟨by rw [HE.out]; rfl, HBE.out⟩
end Go.Proofs.YtmnkekepccdlcaaGreatDoor

namespace Go.Proofs.YtmnkekepccdlcaaGreatDoor
set_option linter.unusedVariables false
set_option linter.unusedSimpArgs false
open Go.RowKit

theorem gNum (n : Int) (w : World) (h0 : 0 ≤ n) (h1 : n ≤ 1000000) : Calls Tryz.prog 61 #[.int .i64 n] w fun e w' => e = .returned (.string ⟨(32 :: Lib.itoa n).toArray⟩) ∧ w = w' := by
  obtain ⟨u, rfl⟩ : ∃ u : Nat, n = u := ⟨n.toNat, by omega⟩
  have F := Lib.hid (rDigits u w (by omega))
  have hl : (Lib.decDigits u).length ≤ 7 := dec_len 6 u (by omega)
  rw [Lib.itoa_nonneg]
  go_enter Tryz.func61, Tryz.ntmps61
  go_wp2_with fail
  refine F.out.mono ?_; rintro e w1 ⟨rfl, rfl⟩
  go_wp2_with fail
  go_ret
  exact ⟨by congr 1, rfl⟩
theorem itoa_7 {n : Int} (h0 : 0 ≤ n) (h1 : n ≤ 1000000) : (Lib.itoa n).length ≤ 7 := by
  obtain ⟨u, rfl⟩ : ∃ u : Nat, n = u := ⟨n.toNat, by omega⟩
  rw [Lib.itoa_nonneg]
  exact dec_len 6 u (by omega)
section
variable (cur a b : List UInt8)
theorem cat_tick : (⟨#[116, 105, 99, 107, 32]⟩ : ByteArray) ++ ⟨a.toArray⟩ ++ ⟨#[10]⟩ = ⟨(lineB [kTick, a]).toArray⟩ := by apply ByteArray.ext; simp [lineB, joinL, kTick]
theorem cat_open : (⟨cur.toArray⟩ : ByteArray) ++ ⟨#[111, 112, 101, 110]⟩ ++ ⟨(32 :: a).toArray⟩ ++ ⟨#[10]⟩ = ⟨(cur ++ lineB [kOpen, a]).toArray⟩ := by apply ByteArray.ext; simp [lineB, joinL, kOpen]
theorem cat_offer : (⟨cur.toArray⟩ : ByteArray) ++ ⟨#[111, 102, 102, 101, 114]⟩ ++ ⟨(32 :: a).toArray⟩ ++ ⟨#[32]⟩ ++ ⟨b.toArray⟩ ++ ⟨#[10]⟩ = ⟨(cur ++ lineB [kOffer, a, b]).toArray⟩ := by apply ByteArray.ext; simp [lineB, joinL, kOffer]
theorem cat_close : (⟨cur.toArray⟩ : ByteArray) ++ ⟨#[99, 108, 111, 115, 101]⟩ ++ ⟨(32 :: a).toArray⟩ ++ ⟨#[32]⟩ ++ ⟨b.toArray⟩ ++ ⟨#[10]⟩ = ⟨(cur ++ lineB [kClose, a, b]).toArray⟩ := by apply ByteArray.ext; simp [lineB, joinL, kClose]
theorem cat_both : (⟨cur.toArray⟩ : ByteArray) ++ ⟨#[98, 111, 116, 104]⟩ ++ ⟨(32 :: a).toArray⟩ ++ ⟨(32 :: b).toArray⟩ ++ ⟨#[10]⟩ = ⟨(cur ++ lineB [kBoth, a, b]).toArray⟩ := by apply ByteArray.ext; simp [lineB, joinL, kBoth]
theorem cat_write : (⟨cur.toArray⟩ : ByteArray) ++ ⟨#[119, 114, 105, 116, 101]⟩ ++ ⟨(32 :: a).toArray⟩ ++ ⟨(32 :: b).toArray⟩ ++ ⟨#[10]⟩ = ⟨(cur ++ lineB [kWrite, a, b]).toArray⟩ := by apply ByteArray.ext; simp [lineB, joinL, kWrite]
theorem cat_read : (⟨cur.toArray⟩ : ByteArray) ++ ⟨#[114, 101, 97, 100]⟩ ++ ⟨(32 :: a).toArray⟩ ++ ⟨#[10]⟩ = ⟨(cur ++ lineB [kRead, a]).toArray⟩ := by apply ByteArray.ext; simp [lineB, joinL, kRead]
theorem cat_drain : (⟨cur.toArray⟩ : ByteArray) ++ ⟨#[100, 114, 97, 105, 110, 32]⟩ ++ ⟨a.toArray⟩ ++ ⟨#[10]⟩ = ⟨(cur ++ lineB [kDrain, a]).toArray⟩ := by apply ByteArray.ext; simp [lineB, joinL, kDrain]
theorem cat_abort : (⟨cur.toArray⟩ : ByteArray) ++ ⟨#[97, 98, 111, 114, 116, 10]⟩ = ⟨(cur ++ lineB [kAbort]).toArray⟩ := by apply ByteArray.ext; simp [lineB, joinL, kAbort]
end

set_option maxHeartbeats 8000000 in
set_option maxRecDepth 100000 in
theorem gPrint (h : Hd) (r : Rd) (w : World) (ha : RAt w h r) (hg : goodR r = true) (hs : Sml 1000000 [r]) (hl : (printR r).length ≤ 900000) :
    Calls Tryz.prog 34 #[.agg (rC h r).toArray] w fun e w' => e = .returned (.string ⟨(printR r).toArray⟩) ∧ Below w.heap.size w w' := by
  obtain ⟨⟨p1, p2⟩, ⟨p3, p4⟩, p5, p6, p7⟩ := good_parts hg
  obtain ⟨s1, s2, s3⟩ := hs.2 r (by simp)
  have HPO : printR r = lineB [kTick, textT r.ticks] ++ (opensB r.opens ++ (offersB r.offers ++ (reportsB r.reports ++ (drainB r.drain ++ abortB r.abort)))) := by unfold printR; simp only [List.append_assoc]
  obtain ⟨TOT, hT⟩ : ∃ T, printR r = T := ⟨_, rfl⟩
  rw [HPO] at hT
  rw [HPO, hT] at hl ⊢
  have HT := Lib.hid hT
  clear hT hg hs HPO
  obtain ⟨w0, hw0⟩ : ∃ w0, w.alloc (.cells (rC h r).toArray 59) = w0 := ⟨_, rfl⟩
  have k0 : Blk w0 w.heap.size 59 (rC h r).toArray := by rw [← hw0]; exact Blk.new _ _ _
  have b0 : Below w.heap.size w w0 := by rw [← hw0]; exact (Below.refl _ _).alloc (Nat.le_refl _) _
  have a0 := ha.later b0
  have HW0 := Lib.hid hw0
  unfold rC at k0 HW0 ⊢
  have A1 := Lib.hid a0.os
  have A2 := Lib.hid a0.fs
  have A3 := Lib.hid a0.ps
  have KK := Lib.hid k0
  obtain ⟨oa, oc, fa, fc, pa, pc⟩ := h
  simp only at A1 A2 A3 KK HW0 ⊢
  have B0 := Lib.hid b0
  have P5 := Lib.hid p5
  have P6 := Lib.hid p6
  have P7 := Lib.hid p7
  have HL := Lib.hid hl
  have l0 := text_13 p1 (by omega)
  have TX := Lib.hid (rText r.ticks w0 (by unfold i64; omega))
  have dq := KK.out.at6
  have hr := Below.refl w0.heap.size w0
  clear hw0 ha k0 a0 b0 p5 p6 p7 hl
  go_enter Tryz.func34, Tryz.ntmps34
  go_upto_region 1 with fail
  rw [HW0.out]
  go_wp2_with fail
  refine TX.out.mono ?_; rintro e wt ⟨rfl, rfl⟩
  have HS := Lib.hid (cat_tick (textT r.ticks))
  have HI : Hid (lineB [kTick, textT r.ticks] ++ (opensB (r.opens.drop 0) ++ (offersB r.offers ++ (reportsB r.reports ++ (drainB r.drain ++ abortB r.abort)))) = TOT) := HT
  clear TX HT
  go_wp2_with fail
  clear dq hr
  go_loopw [3, 4] (fun sv iv wr => ∃ (k : Nat) (cur : List UInt8), iv = .int .i64 k ∧ k ≤ r.opens.length ∧ sv = .string ⟨cur.toArray⟩ ∧ Hid (cur ++ (opensB (r.opens.drop k) ++ (offersB r.offers ++ (reportsB r.reports ++ (drainB r.drain ++ abortB r.abort)))) = TOT) ∧ Below w0.heap.size w0 wr) (fun _ iv _ => r.opens.length - (intOf iv).toNat)
  case atStart => exact ⟨0, _, rfl, Nat.zero_le _, by rw [HS.out], HI, Below.refl _ _⟩
  case round =>
    obtain ⟨k, cur, rfl, hk, rfl, hI, hbw⟩ := hrel
    clear HS HI l0
    have e0 : (0 : Int) ≤ (k : Int) := by omega
    have dq := (KK.out.later hbw).at6
    have hr := Below.refl wr.heap.size wr
    have hcl := app_le hI.out HL.out
    by_cases hlt : k < r.opens.length
    · have e1 : (k : Int) < (r.opens.length : Int) := by omega
      obtain ⟨g, off, rfl, d0⟩ := A1.out k hlt
      have d := d0 wr hbw
      have hx := P5.out _ (List.getElem_mem hlt)
      have hI2 := hI.out
      rw [opens_drop hlt] at hI2
      generalize r.opens[k] = x at *
      have HI2 : Hid ((cur ++ lineB [kOpen, Lib.itoa x]) ++ (opensB (r.opens.drop (k + 1)) ++ (offersB r.offers ++ (reportsB r.reports ++ (drainB r.drain ++ abortB r.abort)))) = TOT) := Lib.hid (by rw [← hI2]; simp only [List.append_assoc])
      have l1 := itoa_7 hx.1 (by omega)
      have HS := Lib.hid (cat_open cur (Lib.itoa x))
      clear d0 hI hI2
      go_wp2_with fail
      refine (gNum x _ hx.1 (by omega)).mono ?_; rintro e w2 ⟨rfl, rfl⟩
      go_wp2_with fail
      go_roundw
      case rel => exact ⟨k + 1, _, by go_num, by omega, by rw [HS.out], HI2, hbw⟩
      case measure => simp [intOf]; omega
    · obtain rfl : k = r.opens.length := by omega
      have e1 : ¬ ((r.opens.length : Int) < (r.opens.length : Int)) := by omega
      have hI2 := hI.out
      rw [List.drop_length] at hI2
      have HI : Hid (cur ++ (offersB (r.offers.drop 0) ++ (reportsB r.reports ++ (drainB r.drain ++ abortB r.abort))) = TOT) := Lib.hid hI2
      clear hI hI2 e0 hk hlt A1 P5
      go_wp2_with fail
      have hb1 := hbw
      clear hbw dq hr e1
      generalize cur = cur0 at *
      go_loopw [3, 5] (fun sv iv wx => ∃ (k : Nat) (cur : List UInt8), iv = .int .i64 k ∧ k ≤ r.offers.length ∧ sv = .string ⟨cur.toArray⟩ ∧ Hid (cur ++ (offersB (r.offers.drop k) ++ (reportsB r.reports ++ (drainB r.drain ++ abortB r.abort))) = TOT) ∧ Below w0.heap.size w0 wx) (fun _ iv _ => r.offers.length - (intOf iv).toNat)
      case atStart => exact ⟨0, _, rfl, Nat.zero_le _, rfl, HI, hb1⟩
      case round =>
        obtain ⟨k, cur, rfl, hk, rfl, hI, hbw⟩ := hrel
        clear HI hcl hb1
        have e0 : (0 : Int) ≤ (k : Int) := by omega
        have dq := (KK.out.later hbw).at6
        have hr := Below.refl wr.heap.size wr
        have hcl := app_le hI.out HL.out
        by_cases hlt : k < r.offers.length
        · have e1 : (k : Int) < (r.offers.length : Int) := by omega
          obtain ⟨g, off, rfl, d0⟩ := A2.out k hlt
          have d := d0 wr hbw
          have hx := P6.out _ (List.getElem_mem hlt)
          have hI2 := hI.out
          rw [offers_drop hlt] at hI2
          generalize r.offers[k] = x at *
          have HI2 : Hid ((cur ++ lineB (offW x)) ++ (offersB (r.offers.drop (k + 1)) ++ (reportsB r.reports ++ (drainB r.drain ++ abortB r.abort))) = TOT) := Lib.hid (by rw [← hI2]; simp only [List.append_assoc])
          obtain ⟨xi, xb, xe⟩ := x
          simp only [offW] at d hx HI2
          have l1 := itoa_7 hx.1.1 (by omega)
          have l2 : (quoteT xb.data.toList).length ≤ 1026 := by
            have h1 := quoteT_len xb.data.toList
            have h2 : xb.data.toList.length = xb.size := rfl
            omega
          obtain ⟨wz, hwz⟩ : ∃ wz, wr.alloc (.cells #[.int .i64 xi, .string xb, .bool xe] 93) = wz := ⟨_, rfl⟩
          have kz : Blk wz wr.heap.size 93 #[.int .i64 xi, .string xb, .bool xe] := by rw [← hwz]; exact Blk.new _ _ _
          have bz : Below wr.heap.size wr wz := by rw [← hwz]; exact (Below.refl _ _).alloc (Nat.le_refl _) _
          have HZ := Lib.hid hwz
          have HBZ := Lib.hid (hbw.up bz)
          clear hwz d0 hI hI2
          go_upto_region 10 with fail
          rw [HZ.out]
          have dz := kz.at3
          have hr2 := Below.refl wz.heap.size wz
          clear d dq hr bz hbw
          cases xe
          · have HS := Lib.hid (cat_offer cur (Lib.itoa xi) (quoteT xb.data.toList))
            simp only [Bool.false_eq_true, if_false] at HI2
            go_upto_region 12 with fail
            refine wp_region_later wz.heap.size (by kernel_rfl) (by kernel_rfl) ?_
            have hu : ∀ u : Later wz.heap.size wz, Below wz.heap.size wz u.world := Later.below
            repeat (go_big_quiet_step ((first | (go_at_call 61; exact later_same (gNum _ _ hx.1.1 (by omega))) | (go_at_call 43; exact later_below (Nat.le_refl _) (rQuote _ _ (by omega))))))
            refine wpQuiet_nil ?_
            intro w7 b7
            have hbx7 := HBZ.out.up b7
            clear hu hr2 dz b7
            go_wp2_with fail
            go_roundw
            case rel => exact ⟨k + 1, _, by go_num, by omega, by rw [HS.out], HI2, hbx7⟩
            case measure => simp [intOf]; omega
          · have HS := Lib.hid (cat_close cur (Lib.itoa xi) (quoteT xb.data.toList))
            simp only [if_true] at HI2
            go_upto_region 12 with fail
            refine wp_region_later wz.heap.size (by kernel_rfl) (by kernel_rfl) ?_
            have hu : ∀ u : Later wz.heap.size wz, Below wz.heap.size wz u.world := Later.below
            repeat (go_big_quiet_step ((first | (go_at_call 61; exact later_same (gNum _ _ hx.1.1 (by omega))) | (go_at_call 43; exact later_below (Nat.le_refl _) (rQuote _ _ (by omega))))))
            refine wpQuiet_nil ?_
            intro w7 b7
            have hbx7 := HBZ.out.up b7
            clear hu hr2 dz b7
            go_wp2_with fail
            go_roundw
            case rel => exact ⟨k + 1, _, by go_num, by omega, by rw [HS.out], HI2, hbx7⟩
            case measure => simp [intOf]; omega
        · obtain rfl : k = r.offers.length := by omega
          have e1 : ¬ ((r.offers.length : Int) < (r.offers.length : Int)) := by omega
          have hI2 := hI.out
          rw [List.drop_length] at hI2
          have HI : Hid (cur ++ (reportsB (r.reports.drop 0) ++ (drainB r.drain ++ abortB r.abort)) = TOT) := Lib.hid hI2
          clear hI hI2 e0 hk hlt A2 P6
          go_wp2_with fail
          have hb1 := hbw
          clear hbw dq hr e1
          generalize cur = cur1 at *
          go_loopw [3, 8] (fun sv iv wy => ∃ (k : Nat) (cur : List UInt8), iv = .int .i64 k ∧ k ≤ r.reports.length ∧ sv = .string ⟨cur.toArray⟩ ∧ Hid (cur ++ (reportsB (r.reports.drop k) ++ (drainB r.drain ++ abortB r.abort)) = TOT) ∧ Below w0.heap.size w0 wy) (fun _ iv _ => r.reports.length - (intOf iv).toNat)
          case atStart => exact ⟨0, _, rfl, Nat.zero_le _, rfl, HI, hb1⟩
          case round =>
            obtain ⟨k, cur, rfl, hk, rfl, hI, hbw⟩ := hrel
            clear HI hcl hb1
            have e0 : (0 : Int) ≤ (k : Int) := by omega
            have dq := (KK.out.later hbw).at6
            have hr := Below.refl wr.heap.size wr
            have hcl := app_le hI.out HL.out
            by_cases hlt : k < r.reports.length
            · have e1 : (k : Int) < (r.reports.length : Int) := by omega
              obtain ⟨g, off, rfl, d0⟩ := A3.out k hlt
              have d := d0 wr hbw
              have hx := P7.out _ (List.getElem_mem hlt)
              have hI2 := hI.out
              rw [reports_drop hlt] at hI2
              generalize r.reports[k] = x at *
              have HI2 : Hid ((cur ++ lineB (repW x)) ++ (reportsB (r.reports.drop (k + 1)) ++ (drainB r.drain ++ abortB r.abort)) = TOT) := Lib.hid (by rw [← hI2]; simp only [List.append_assoc])
              obtain ⟨xi, xr, xw, xa⟩ := x
              simp only [repW] at d hx HI2
              have l1 := itoa_7 hx.1.1 (by omega)
              have l2 := itoa_7 hx.2.1 (by omega)
              obtain ⟨wz, hwz⟩ : ∃ wz, wr.alloc (.cells #[.int .i64 xi, .bool xr, .bool xw, .int .i64 xa] 95) = wz := ⟨_, rfl⟩
              have kz : Blk wz wr.heap.size 95 #[.int .i64 xi, .bool xr, .bool xw, .int .i64 xa] := by rw [← hwz]; exact Blk.new _ _ _
              have bz : Below wr.heap.size wr wz := by rw [← hwz]; exact (Below.refl _ _).alloc (Nat.le_refl _) _
              have HZ := Lib.hid hwz
              have HBZ := Lib.hid (hbw.up bz)
              clear hwz d0 hI hI2
              go_upto_region 17 with fail
              rw [HZ.out]
              have dz := kz.at4
              have hr2 := Below.refl wz.heap.size wz
              clear d dq hr bz hbw
              cases xw
              · have HS := Lib.hid (cat_read cur (Lib.itoa xi))
                simp only [Bool.not_false, if_true] at HI2
                cases xr
                all_goals (
                  go_wp2_with fail
                  refine (gNum xi _ hx.1.1 (by omega)).mono ?_; rintro e w2 ⟨rfl, rfl⟩
                  go_wp2_with fail
                  go_roundw
                  case rel => exact ⟨k + 1, _, by go_num, by omega, by rw [HS.out], HI2, HBZ.out⟩
                  case measure => simp [intOf]; omega)
              · cases xr
                · have HS := Lib.hid (cat_write cur (Lib.itoa xi) (Lib.itoa xa))
                  simp only [Bool.not_true, Bool.false_eq_true, if_false] at HI2
                  go_upto_region 20 with fail
                  refine wp_region_later wz.heap.size (by kernel_rfl) (by kernel_rfl) ?_
                  have hu : ∀ u : Later wz.heap.size wz, Below wz.heap.size wz u.world := Later.below
                  repeat (go_big_quiet_step ((go_at_call 61; first | exact later_same (gNum xi _ hx.1.1 (by omega)) | exact later_same (gNum xa _ hx.2.1 (by omega)))))
                  refine wpQuiet_nil ?_
                  intro w7 b7
                  have hbx7 := HBZ.out.up b7
                  clear hu hr2 dz b7
                  go_wp2_with fail
                  go_roundw
                  case rel => exact ⟨k + 1, _, by go_num, by omega, by rw [HS.out], HI2, hbx7⟩
                  case measure => simp [intOf]; omega
                · have HS := Lib.hid (cat_both cur (Lib.itoa xi) (Lib.itoa xa))
                  simp only [Bool.not_true, Bool.false_eq_true, if_false, if_true] at HI2
                  go_upto_region 18 with fail
                  refine wp_region_later wz.heap.size (by kernel_rfl) (by kernel_rfl) ?_
                  have hu : ∀ u : Later wz.heap.size wz, Below wz.heap.size wz u.world := Later.below
                  repeat (go_big_quiet_step ((go_at_call 61; first | exact later_same (gNum xi _ hx.1.1 (by omega)) | exact later_same (gNum xa _ hx.2.1 (by omega)))))
                  refine wpQuiet_nil ?_
                  intro w7 b7
                  have hbx7 := HBZ.out.up b7
                  clear hu hr2 dz b7
                  go_wp2_with fail
                  go_roundw
                  case rel => exact ⟨k + 1, _, by go_num, by omega, by rw [HS.out], HI2, hbx7⟩
                  case measure => simp [intOf]; omega
            · obtain rfl : k = r.reports.length := by omega
              have e1 : ¬ ((r.reports.length : Int) < (r.reports.length : Int)) := by omega
              have hI2 := hI.out
              rw [List.drop_length] at hI2
              have HI : Hid (cur ++ (drainB r.drain ++ abortB r.abort) = TOT) := Lib.hid hI2
              have HBE := Lib.hid (B0.out.up hbw)
              clear hI hI2 e0 hk hlt A3 P7 hbw
              by_cases c : 0 < r.drain
              · have eD : drainB r.drain = lineB [kDrain, textT (r.drain - 1)] := by unfold drainB; rw [if_pos c]
                rw [eD] at HI
                have l1 := text_13 (n := r.drain - 1) (by omega) (by omega)
                have hw : IntKind.i64.wrap (r.drain - 1) = r.drain - 1 := IntWalk.i64_in _ (by omega)
                have TX := Lib.hid (rText (r.drain - 1) wr (by unfold i64; omega))
                have HS := Lib.hid (cat_drain cur (textT (r.drain - 1)))
                generalize hdd : r.drain = dd at *
                clear eD
                cases hab : r.abort
                · rw [hab] at HI dq
                  have HE : Hid (cur ++ lineB [kDrain, textT (dd - 1)] = TOT) := Lib.hid (by rw [← HI.out]; simp [abortB])
                  clear hab
                  go_wp2_with fail
                  refine TX.out.mono ?_; rintro e w2 ⟨rfl, rfl⟩
                  go_wp2_with fail
                  go_ret
                  exact ⟨by rw [← HE.out, ← HS.out]; rfl, HBE.out⟩
                · rw [hab] at HI dq
                  have HE : Hid ((cur ++ lineB [kDrain, textT (dd - 1)]) ++ lineB [kAbort] = TOT) := Lib.hid (by rw [← HI.out]; simp [abortB])
                  have HS2 := Lib.hid (cat_abort (cur ++ lineB [kDrain, textT (dd - 1)]))
                  clear hab
                  go_wp2_with fail
                  refine TX.out.mono ?_; rintro e w2 ⟨rfl, rfl⟩
                  go_wp2_with fail
                  go_ret
                  exact ⟨by rw [← HE.out, ← HS2.out, ← HS.out]; rfl, HBE.out⟩
              · have eD : drainB r.drain = [] := by unfold drainB; rw [if_neg c]
                rw [eD, List.nil_append] at HI
                generalize hdd : r.drain = dd at *
                clear eD
                cases hab : r.abort
                · rw [hab] at HI dq
                  have HE : Hid (cur = TOT) := Lib.hid (by rw [← HI.out]; simp [abortB])
                  clear hab
                  go_wp2_with fail
                  go_ret
                  exact ⟨by rw [← HE.out]; rfl, HBE.out⟩
                · rw [hab] at HI dq
                  have HE : Hid (cur ++ lineB [kAbort] = TOT) := Lib.hid (by rw [← HI.out]; simp [abortB])
                  have HS2 := Lib.hid (cat_abort cur)
                  clear hab
                  go_wp2_with fail
                  go_ret
                  exact ⟨by rw [← HE.out, ← HS2.out]; rfl, HBE.out⟩
end Go.Proofs.YtmnkekepccdlcaaGreatDoor
