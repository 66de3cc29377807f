/-
  The walk of WorldLines: what comes of any two lines of a round.
  Conditions: the tables and the error of range stand in their variables.
-/
import Derived.Test.YtmnkekepccdlcaaGreatDoorWReads
import Derived.Deep.RegionLaw
namespace Go.Proofs.YtmnkekepccdlcaaGreatDoor
set_option linter.unusedVariables false
set_option linter.unusedSimpArgs false
open Go.RowKit

/-- The first line of a text that is cut. -/
def line1 (s : ByteArray) : List UInt8 := (linesL (cutT s 60).data.toList).headD []
theorem line1_at (s : ByteArray) (h : 0 < (linesL (cutT s 60).data.toList).length) : (linesL (cutT s 60).data.toList)[0] = line1 s := by
  unfold line1
  generalize linesL (cutT s 60).data.toList = L at *
  cases L with
  | nil => cases h
  | cons x L => rfl
theorem line1_len (s : ByteArray) : (line1 s).length ≤ 60 := by
  have h := lines_room (cutT s 60).data.toList
  have h2 : (cutT s 60).data.toList.length ≤ 60 := cutT_size s 60
  unfold line1
  generalize linesL (cutT s 60).data.toList = L at *
  cases L with
  | nil => simp
  | cons x L => have := h.2 x (by simp); simp; omega
theorem lines_pos (s : ByteArray) : (0 : Int) < ((linesL (cutT s 60).data.toList).length : Nat) := by
  have := linesL_ne (cutT s 60).data.toList
  have := List.length_pos_iff.2 this
  omega

set_option maxHeartbeats 16000000 in
set_option maxRecDepth 100000 in
theorem worldLines (s t : ByteArray) (w : World) (he : EnvW w) : Calls Tryz.prog 6 #[.string s, .string t] w fun e w' => e = .returned (.bool true) ∧ Below w.heap.size w w' := by
  have HE := Lib.hid he
  have HLV := Lib.hid (fun w' he' => wLives w' he')
  have hs : (cutT s 60).size ≤ 100000 := Nat.le_trans (cutT_size _ _) (by decide)
  have ht : (cutT t 60).size ≤ 100000 := Nat.le_trans (cutT_size _ _) (by decide)
  have CA : Hid (∀ w', Calls Tryz.prog 11 #[.string s, .int .i64 60] w' fun e w'' => e = .returned (.string (cutT s 60)) ∧ w' = w'') := Lib.hid fun w' => xCut s 60 w'
  have CB : Hid (∀ w', Calls Tryz.prog 11 #[.string t, .int .i64 60] w' fun e w'' => e = .returned (.string (cutT t 60)) ∧ w' = w'') := Lib.hid fun w' => xCut t 60 w'
  have LA : Hid (∀ w', Calls Tryz.prog 26 #[.string (cutT s 60)] w' fun e w'' => ∃ ao cap, e = .returned (.slice ao (linesL (cutT s 60).data.toList).length cap) ∧ (∃ g, ao = some ⟨g, 0, none⟩ ∧ ∀ wx, Below w''.heap.size w'' wx → wx.cell? ⟨g, 0, none⟩ = some (.string (bt (line1 s)))) ∧ Below w'.heap.size w' w'') := Lib.hid fun w' => (yLines (cutT s 60) w' hs).mono fun e w'' ⟨ao, cap, he, hos, hb⟩ => ⟨ao, cap, he, by
    obtain ⟨g, eg, _, d⟩ := os_at hos 0 (by have := lines_pos s; omega)
    exact ⟨g, eg, fun wx hx => by rw [← line1_at s]; exact d wx hx⟩, hb⟩
  have LB : Hid (∀ w', Calls Tryz.prog 26 #[.string (cutT t 60)] w' fun e w'' => ∃ ao cap, e = .returned (.slice ao (linesL (cutT t 60).data.toList).length cap) ∧ (∃ g, ao = some ⟨g, 0, none⟩ ∧ ∀ wx, Below w''.heap.size w'' wx → wx.cell? ⟨g, 0, none⟩ = some (.string (bt (line1 t)))) ∧ Below w'.heap.size w' w'') := Lib.hid fun w' => (yLines (cutT t 60) w' ht).mono fun e w'' ⟨ao, cap, he, hos, hb⟩ => ⟨ao, cap, he, by
    obtain ⟨g, eg, _, d⟩ := os_at hos 0 (by have := lines_pos t; omega)
    exact ⟨g, eg, fun wx hx => by rw [← line1_at t]; exact d wx hx⟩, hb⟩
  have pa := lines_pos s
  have pb := lines_pos t
  have la := line1_len s
  have lb := line1_len t
  obtain ⟨a, ha⟩ : ∃ a, bt (line1 s) = a := ⟨_, rfl⟩
  obtain ⟨b, hb⟩ : ∃ b, bt (line1 t) = b := ⟨_, rfl⟩
  have za : a.size ≤ 60 := by rw [← ha]; exact la
  have zb : b.size ≤ 60 := by rw [← hb]; exact lb
  rw [ha] at LA
  rw [hb] at LB
  generalize (linesL (cutT s 60).data.toList).length = na at *
  generalize (linesL (cutT t 60).data.toList).length = nb at *
  generalize cutT s 60 = sa at *
  generalize cutT t 60 = sb at *
  have pa' : 0 < na := by omega
  have pb' : 0 < nb := by omega
  clear ha hb la lb he hs ht
  have DD : Below w.heap.size w w.drew := (Below.refl _ _).drew
  go_enter Tryz.func6, Tryz.ntmps6
  go_upto_region 1 with fail
  go_cut [0, 1] (fun u v wx => u = .string a ∧ v = .string b ∧ Hid (Below w.heap.size w wx))
  case first =>
    go_region_law (first
      | (go_simp; go_at_call 11; with_reducible (refine (CA.out _).mono ?_); rintro e wn ⟨rfl, rfl⟩)
      | (go_simp; go_at_call 11; with_reducible (refine (CB.out _).mono ?_); rintro e wn ⟨rfl, rfl⟩)
      | (go_simp; go_at_call 26; with_reducible (refine (LA.out w.drew).mono ?_); rintro e w1 ⟨ao, cap, rfl, ⟨g, rfl, da⟩, b1⟩; have hb1 := DD.up b1; have hr1 := Below.refl w1.heap.size w1)
      | (go_simp; go_at_call 26; with_reducible (refine (LB.out w.drew).mono ?_); rintro e w1 ⟨bo, cap2, rfl, ⟨g2, rfl, db⟩, b1⟩; have hb1 := DD.up b1; have hr1 := Below.refl w1.heap.size w1)
      | (go_simp; go_at_call 26; with_reducible (refine (LA.out w1).mono ?_); rintro e w2 ⟨ao, cap, rfl, ⟨g, rfl, da⟩, b2⟩; have hb2 := hb1.up b2; have hr2 := Below.refl w2.heap.size w2; have b2' := b2)
      | (go_simp; go_at_call 26; with_reducible (refine (LB.out w1).mono ?_); rintro e w2 ⟨bo, cap2, rfl, ⟨g2, rfl, db⟩, b2⟩; have hb2 := hb1.up b2; have hr2 := Below.refl w2.heap.size w2; have b2' := b2))
    all_goals (
      have HX := Lib.hid hb2
      go_wp2_with fail
      go_meet
      exact ⟨rfl, rfl, HX⟩)
  case rest =>
    obtain ⟨rfl, rfl, hbc⟩ := hcut
    generalize wc = w0 at *
    have ht0 : ((⟨#[116, 105, 99, 107, 32, 49, 10]⟩ : ByteArray) ++ a ++ ⟨#[10]⟩ ++ b).size ≤ 400 := by
      simp only [ByteArray.size_append]
      have e1 : (⟨#[116, 105, 99, 107, 32, 49, 10]⟩ : ByteArray).size = 7 := rfl
      have e2 : (⟨#[10]⟩ : ByteArray).size = 1 := rfl
      omega
    obtain ⟨T, hT⟩ : ∃ T, (⟨#[116, 105, 99, 107, 32, 49, 10]⟩ : ByteArray) ++ a ++ ⟨#[10]⟩ ++ b = T := ⟨_, rfl⟩
    rw [hT] at ht0
    have HT := Lib.hid hT
    have FA := Lib.hid (fun w' he' => worldRead T w' (by omega) he')
    have FB := Lib.hid (fun w' => gReadAll T w' (by omega))
    generalize readW T.data.toList = R at *
    have HB0 := hbc
    have HE0 := Lib.hid (HE.out.later hbc.out)
    clear hT ht0 hbc CA CB LA LB pa pb pa' pb' DD
    go_wp2_with fail
    rw [HT.out]
    refine (FA.out w0 HE0.out).mono ?_
    intro e w1 hp
    obtain ⟨hsm, ao, cap, l, hm, rfl, hR1, b1⟩ := rd_open hp
    have HSM := Lib.hid hsm
    have HM1 := Lib.hid hm
    have HR1 := Lib.hid hR1
    have HB1 := Lib.hid (HB0.out.up b1)
    clear hp hm hsm hR1 b1 FA
    obtain ⟨c1, hc1⟩ : ∃ c : Nat, (cdO R).1 = c := ⟨_, rfl⟩
    obtain ⟨c2, hc2⟩ : ∃ c : Nat, (cdO R).2.1 = c := ⟨_, rfl⟩
    obtain ⟨c3, hc3⟩ : ∃ c : Int, (cdO R).2.2 = c := ⟨_, rfl⟩
    rw [hc1, hc2, hc3]
    have HC := Lib.hid (And.intro hc1 (And.intro hc2 hc3))
    clear hc1 hc2 hc3
    go_upto_region 3 with fail
    obtain ⟨w2, hw2⟩ : ∃ w2, w1.alloc (.cells #[.int .i64 (c1 : Nat), .int .i64 (c2 : Nat)] 49) = w2 := ⟨_, rfl⟩
    have k2 : Blk w2 w1.heap.size 49 #[.int .i64 (c1 : Nat), .int .i64 (c2 : Nat)] := by rw [← hw2]; exact Blk.new _ _ _
    have b2 : Below w1.heap.size w1 w2 := by rw [← hw2]; exact (Below.refl _ _).alloc (Nat.le_refl _) _
    try rw [hw2]
    have HB2 := Lib.hid (HB1.out.up b2)
    have HR2 := Lib.hid (HR1.out.later b2)
    have K2 := Lib.hid k2
    clear hw2 b2 k2
    generalize w1.heap.size = q1 at *
    go_wp2_with fail
    rw [HT.out]
    refine (FB.out w2).mono ?_
    intro e w3 hp
    obtain ⟨-, bo, cb, m, hm, rfl, hR3, b3⟩ := rd_open hp
    have HM3 := Lib.hid hm
    have HR3 := Lib.hid hR3
    have HB3 := Lib.hid (HB2.out.up b3)
    have HR4 := Lib.hid (HR2.out.later b3)
    have K3 := Lib.hid (K2.out.later b3)
    clear hp hm hR3 b3 FB
    rw [HC.out.1, HC.out.2.1, HC.out.2.2]
    go_upto_region 4 with fail
    obtain ⟨w4, hw4⟩ : ∃ w4, w3.alloc (.cells #[.int .i64 (c1 : Nat), .int .i64 (c2 : Nat)] 49) = w4 := ⟨_, rfl⟩
    have k4 : Blk w4 w3.heap.size 49 #[.int .i64 (c1 : Nat), .int .i64 (c2 : Nat)] := by rw [← hw4]; exact Blk.new _ _ _
    have b4 : Below w3.heap.size w3 w4 := by rw [← hw4]; exact (Below.refl _ _).alloc (Nat.le_refl _) _
    try rw [hw4]
    have HB4 := Lib.hid (HB3.out.up b4)
    have RL := Lib.hid (HR4.out.later b4)
    have RM := Lib.hid (HR3.out.later b4)
    have ka := K3.out.later b4
    clear hw4 b4
    generalize w3.heap.size = q3 at *
    have FS := Lib.hid (wSames l m ao bo cap cb w4 RL.out.rsat RM.out.rsat (by rw [HM1.out, HM3.out]) (by rw [HM1.out]; exact sml_mono HSM.out (by decide)))
    have da := ka.at2
    have db := k4.at2
    have hr := Below.refl w4.heap.size w4
    go_wp2_with fail
    refine FS.out.mono ?_; rintro e w6 ⟨rfl, b6⟩
    have HB6 := Lib.hid (HB4.out.up b6)
    have da := (ka.later b6).at2
    have db := (k4.later b6).at2
    have hr := Below.refl w6.heap.size w6
    clear b6
    go_wp2_with fail
    refine (HLV.out _ (HE.out.later HB6.out)).mono ?_; rintro e w7 ⟨rfl, b7⟩
    go_wp2_with fail
    go_ret
    exact ⟨rfl, HB6.out.up b7⟩
end Go.Proofs.YtmnkekepccdlcaaGreatDoor
