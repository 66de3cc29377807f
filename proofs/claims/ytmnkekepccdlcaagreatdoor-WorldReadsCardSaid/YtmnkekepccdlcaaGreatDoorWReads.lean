/-
  The walk of WorldReads: which rounds any text is, or where and why none, and that they are good.
  Conditions: the tables and the error of range stand in their variables.
-/
import Derived.Test.YtmnkekepccdlcaaGreatDoorWRdD
import Derived.Test.YtmnkekepccdlcaaGreatDoorWRounds
import Derived.Test.YtmnkekepccdlcaaGreatDoorWorldR
import Derived.Test.YtmnkekepccdlcaaGreatDoorWorldL
namespace Go.Proofs.YtmnkekepccdlcaaGreatDoor
set_option linter.unusedVariables false
set_option linter.unusedSimpArgs false
open Go.RowKit

/-- The rounds that are read; where and why there are none. -/
def rsO (r : Except (Nat × Nat × Int) (List Rd)) : List Rd := match r with | .ok rs => rs | .error _ => []
def cdO (r : Except (Nat × Nat × Int) (List Rd)) : Nat × Nat × Int := match r with | .ok _ => (0, 0, 0) | .error p => p
theorem rd_open {w w' : World} {r : Except (Nat × Nat × Int) (List Rd)} {e : Ending} (h : RdPost w r e w') :
    Sml 100000 (rsO r) ∧ ∃ ao cap l, l.map Prod.snd = rsO r ∧ e = .returned (.tuple #[.slice ao l.length cap, .agg #[.int .i64 ((cdO r).1 : Nat), .int .i64 ((cdO r).2.1 : Nat)], .int .i64 (cdO r).2.2]) ∧ Rnds w.heap.size w' ao cap l ∧ Below w.heap.size w w' := by
  cases r with
  | ok rs => exact h
  | error p =>
    obtain ⟨k, c, x⟩ := p
    obtain ⟨_, rfl, hb⟩ := h
    exact ⟨⟨Nat.zero_le _, fun r hr => by cases hr⟩, none, 0, [], rfl, rfl, Rnds.nil _ _, hb⟩
theorem rsO_good (t : List UInt8) : ∀ r ∈ rsO (readW t), goodR r = true := by
  cases h : readW t with
  | ok rs => exact read_good h
  | error p => intro r hr; cases hr
theorem sml_mono {K M : Nat} {rs : List Rd} (h : Sml K rs) (hk : K ≤ M) : Sml M rs := ⟨Nat.le_trans h.1 hk, fun r hr => ⟨Nat.le_trans (h.2 r hr).1 hk, Nat.le_trans (h.2 r hr).2.1 hk, Nat.le_trans (h.2 r hr).2.2 hk⟩⟩

set_option maxHeartbeats 8000000 in
set_option maxRecDepth 100000 in
theorem worldReads (s : ByteArray) (w : World) (he : EnvW w) : Calls Tryz.prog 7 #[.string s] w fun e w' => e = .returned (.bool true) ∧ Below w.heap.size w w' := by
  have HE := Lib.hid he
  have HLV := Lib.hid (fun w' he' => wLives w' he')
  have hT : (cutT s 400).size ≤ 400 := cutT_size _ _
  have FA := Lib.hid (fun w' he' => worldRead (cutT s 400) w' (by omega) he')
  have FB := Lib.hid (fun w' => gReadAll (cutT s 400) w' (by omega))
  have FC := Lib.hid (xCut s 400 w)
  have HG := Lib.hid (rsO_good (cutT s 400).data.toList)
  generalize readW (cutT s 400).data.toList = R at *
  generalize cutT s 400 = T at *
  clear he hT
  go_enter Tryz.func7, Tryz.ntmps7
  go_wp2_with fail
  refine FC.out.mono ?_; rintro e w0 ⟨rfl, rfl⟩
  go_wp2_with fail
  refine (FA.out w HE.out).mono ?_
  intro e w1 hp
  obtain ⟨hsm, ao, cap, l, hm, rfl, hR1, b1⟩ := rd_open hp
  have HSM := Lib.hid hsm
  have HM1 := Lib.hid hm
  have HR1 := Lib.hid hR1
  have HB1 := Lib.hid b1
  clear hp hm hsm hR1 b1 FA FC
  obtain ⟨c1, hc1⟩ : ∃ c : Nat, (cdO R).1 = c := ⟨_, rfl⟩
  obtain ⟨c2, hc2⟩ : ∃ c : Nat, (cdO R).2.1 = c := ⟨_, rfl⟩
  obtain ⟨c3, hc3⟩ : ∃ c : Int, (cdO R).2.2 = c := ⟨_, rfl⟩
  rw [hc1, hc2, hc3]
  have HC := Lib.hid (And.intro hc1 (And.intro hc2 hc3))
  clear hc1 hc2 hc3
  go_upto_region 3 with fail
  obtain ⟨w2, hw2⟩ : ∃ w2, w1.alloc (.cells #[.int .i64 (c1 : Nat), .int .i64 (c2 : Nat)] 49) = w2 := ⟨_, rfl⟩
  have k2 : Blk w2 w1.heap.size 49 #[.int .i64 (c1 : Nat), .int .i64 (c2 : Nat)] := by rw [← hw2]; exact Blk.new _ _ _
  have b2 : Below w1.heap.size w1 w2 := by rw [← hw2]; exact (Below.refl _ _).alloc (Nat.le_refl _) _
  try rw [hw2]
  have HB2 := Lib.hid (HB1.out.up b2)
  have HR2 := Lib.hid (HR1.out.later b2)
  have K2 := Lib.hid k2
  clear hw2 b2 k2
  generalize w1.heap.size = q1 at *
  go_wp2_with fail
  refine (FB.out w2).mono ?_
  intro e w3 hp
  obtain ⟨-, bo, cb, m, hm, rfl, hR3, b3⟩ := rd_open hp
  have HM3 := Lib.hid hm
  have HR3 := Lib.hid hR3
  have HB3 := Lib.hid (HB2.out.up b3)
  have HR4 := Lib.hid (HR2.out.later b3)
  have K3 := Lib.hid (K2.out.later b3)
  clear hp hm hR3 b3 FB
  rw [HC.out.1, HC.out.2.1, HC.out.2.2]
  go_upto_region 4 with fail
  obtain ⟨w4, hw4⟩ : ∃ w4, w3.alloc (.cells #[.int .i64 (c1 : Nat), .int .i64 (c2 : Nat)] 49) = w4 := ⟨_, rfl⟩
  have k4 : Blk w4 w3.heap.size 49 #[.int .i64 (c1 : Nat), .int .i64 (c2 : Nat)] := by rw [← hw4]; exact Blk.new _ _ _
  have b4 : Below w3.heap.size w3 w4 := by rw [← hw4]; exact (Below.refl _ _).alloc (Nat.le_refl _) _
  try rw [hw4]
  have HB4 := Lib.hid (HB3.out.up b4)
  have RL := Lib.hid (HR4.out.later b4)
  have RM := Lib.hid (HR3.out.later b4)
  have KA := Lib.hid (K3.out.later b4)
  have KB := Lib.hid k4
  clear hw4 b4 k4
  generalize w3.heap.size = q3 at *
  have hl1 : l.length ≤ 100000 := by have := HSM.out.1; rw [← HM1.out, List.length_map] at this; exact this
  go_wp2_with fail
  go_loopw [9] (fun iv wr => ∃ k : Nat, iv = .int .i64 k ∧ k ≤ l.length ∧ Hid (Below w4.heap.size w4 wr)) (fun iv _ => l.length - (intOf iv).toNat)
  case atStart => exact ⟨0, rfl, Nat.zero_le _, Lib.hid (Below.refl _ _)⟩
  case round =>
    obtain ⟨k, rfl, hk, hbw⟩ := hrel
    have e0 : (0 : Int) ≤ (k : Int) := by omega
    by_cases hlt : k < l.length
    · have e1 : (k : Int) < (l.length : Int) := by omega
      obtain ⟨g, rfl, hg, d1⟩ := RL.out.at_ k hlt
      have d := fun w' (hw : Below wr.heap.size wr w') => d1 w' (hbw.out.up hw)
      have hmem : l[k].2 ∈ rsO R := by rw [← HM1.out]; exact List.mem_map_of_mem (List.getElem_mem hlt)
      have hgd := HG.out _ hmem
      have hsr : Sml 1000000 [l[k].2] := by
        have := HSM.out.2 _ hmem
        exact ⟨by simp, fun r hr => by
          simp only [List.mem_singleton] at hr
          subst hr
          omega⟩
      have hin := (RL.out.all _ (List.getElem_mem hlt)).rat
      generalize l[k] = x at *
      obtain ⟨h, r⟩ := x
      simp only at d hgd hsr hin
      have F := xGoodE h r wr (hin.later hbw.out) hsr
      rw [hgd] at F
      unfold rC at F
      have F := Lib.hid F
      have hr := Below.refl wr.heap.size wr
      clear d1 hmem hgd hsr hin hg
      go_wp2_with fail
      refine F.out.mono ?_; rintro e w5 ⟨rfl, b5⟩
      have hb5 := Lib.hid (hbw.out.up b5)
      clear d hr b5 hbw
      go_wp2_with fail
      go_roundw
      case rel => exact ⟨k + 1, by go_num, by omega, hb5⟩
      case measure => simp [intOf]; omega
    · obtain rfl : k = l.length := by omega
      have e1 : ¬ ((l.length : Int) < (l.length : Int)) := by omega
      have FS := Lib.hid (wSames l m ao bo cap cb wr (RL.out.later hbw.out).rsat (RM.out.later hbw.out).rsat (by rw [HM1.out, HM3.out]) (by rw [HM1.out]; exact sml_mono HSM.out (by decide)))
      have HB5 := Lib.hid (HB4.out.up hbw.out)
      have ka := KA.out.later hbw.out
      have kb := KB.out.later hbw.out
      have da := ka.at2
      have db := kb.at2
      have hr := Below.refl wr.heap.size wr
      clear hbw
      go_wp2_with fail
      refine FS.out.mono ?_; rintro e w6 ⟨rfl, b6⟩
      have HB6 := Lib.hid (HB5.out.up b6)
      have da := (ka.later b6).at2
      have db := (kb.later b6).at2
      have hr := Below.refl w6.heap.size w6
      clear b6
      go_wp2_with fail
      refine (HLV.out _ (HE.out.later HB6.out)).mono ?_; rintro e w7 ⟨rfl, b7⟩
      go_wp2_with fail
      go_ret
      exact ⟨rfl, HB6.out.up b7⟩
end Go.Proofs.YtmnkekepccdlcaaGreatDoor
