/-
  The walk of FaultCodes: true for all arguments.
  Conditions: a slice of at most the longest length, the tables of the numbers' texts and the handle of the type error laid.
-/
import Derived.Test.YtkbfhnhdlcbidaaDoorFaultTexts
import Derived.Test.YtkbfhnhdlcbidaaDoorErrIs
namespace Go.Proofs.YtkbfhnhdlcbidaaDoor
open Go.RowKit Go.Sort

set_option maxHeartbeats 1000000 in
set_option maxRecDepth 100000 in
theorem faultCodes (ao : Option Addr) (cap : Nat) (ws : List Wr) (en o : Int) (w : World) (hin : WIn w ao ws) (hz : ws.length ≤ maxLen) (hp : Pow w) (hh : HandleE w) :
    Calls Tryd.prog 6 #[.slice ao ws.length cap, .int .i64 en, .int .i64 o] w fun e w' => e = .returned (.bool true) ∧ Below w.heap.size w w' := by
  have F := Lib.hid (fFew ao cap ws w hin hz)
  have HP := Lib.hid hp
  have HH := Lib.hid hh
  have h8 := ws8_len ws
  clear hp hin hz hh
  generalize ws8 ws = us at *
  by_cases h0 : en = 0
  · subst h0
    go_enter Tryd.func6, Tryd.ntmps6
    go_wp2_with fail
    refine F.out.mono ?_; rintro e w1 ⟨oo, oc, rfl, -, hb⟩
    go_wp2_with fail
    refine (fCode_nil _).mono ?_; rintro e w2 ⟨rfl, hb2⟩
    have hb3 := hb.up hb2
    go_wp2_with fail
    refine (fIs_nil _ _).mono ?_; rintro e w3 ⟨rfl, rfl⟩
    have HP1 := Lib.hid (pow_later HP.out hb3)
    go_wp2_with fail
    refine (fLives _ HP1.out).mono ?_; rintro e w4 ⟨rfl, hb4⟩
    go_wp2_with fail
    go_ret
    exact ⟨rfl, hb3.up hb4⟩
  · have e0 := ne_b h0
    go_enter Tryd.func6, Tryd.ntmps6
    go_wp2_with fail
    refine F.out.mono ?_; rintro e w1 ⟨oo, oc, rfl, hw, hb⟩
    have HW := Lib.hid hw
    clear hw F
    go_wp2_with fail
    refine (fWrapped oo oc us en _ HW.out (by omega)).mono ?_; rintro e w2 ⟨v, rfl, hc, hb2⟩
    have hb3 := hb.up hb2
    have HC := Lib.hid hc
    have HH2 := Lib.hid (handle_later HH.out hb3)
    clear hc HW hb hb2
    go_wp2_with fail
    refine (fCode en us v _ HC.out HH2.out).mono ?_; rintro e w3 ⟨rfl, hb4⟩
    have hb5 := hb3.up hb4
    have HC3 := Lib.hid (chain_later hb4 HC.out)
    have HP3 := Lib.hid (pow_later HP.out hb5)
    clear hb3 hb4 HC HH2 HP
    go_wp2_with fail
    refine (fIs en en us v _ HC3.out h0).mono ?_; rintro e w4 ⟨rfl, rfl⟩
    go_wp2_with fail
    refine (fIs o en us v _ HC3.out h0).mono ?_; rintro e w4 ⟨rfl, rfl⟩
    have e5 : (en == o) = (o == en) := Bool.beq_comm ..
    go_wp2_with fail
    refine (fIs 0 en us v _ HC3.out h0).mono ?_; rintro e w4 ⟨rfl, rfl⟩
    go_wp2_with fail
    refine (fLives _ HP3.out).mono ?_; rintro e w5 ⟨rfl, hb8⟩
    go_wp2_with fail
    go_ret
    exact ⟨rfl, hb5.up hb8⟩
end Go.Proofs.YtkbfhnhdlcbidaaDoor
