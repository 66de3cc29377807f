/-
  The walk of FaultTexts: true for all arguments.
  Conditions: a slice of at most the longest length, the tables of the numbers' texts laid.
-/
import Derived.Test.YtkbfhnhdlcbidaaDoorFault2
namespace Go.Proofs.YtkbfhnhdlcbidaaDoor
open Go.RowKit Go.Sort

theorem ws8_len (ws : List Wr) : (ws8 ws).length ≤ 8 := by
  unfold ws8; rw [List.length_map, List.length_take]; omega
theorem ws8_ok {ws : List Wr} (h : ∀ W ∈ ws, i64 W.line ∧ i64 W.col) : ∀ W ∈ ws8 ws, WrOk W := by
  intro W hW
  unfold ws8 at hW
  obtain ⟨V, hV, rfl⟩ := List.mem_map.1 hW
  have := h V (List.mem_of_mem_take hV)
  exact ⟨this.1, this.2, cutT_size V.name 8⟩

set_option maxHeartbeats 1000000 in
set_option maxRecDepth 100000 in
theorem faultTexts (ao : Option Addr) (cap : Nat) (ws : List Wr) (en : Int) (w : World) (hin : WIn w ao ws) (hz : ws.length ≤ maxLen) (hg : ∀ W ∈ ws, i64 W.line ∧ i64 W.col) (he : i64 en) (hp : Pow w) :
    Calls Tryd.prog 3 #[.slice ao ws.length cap, .int .i64 en] w fun e w' => e = .returned (.bool true) ∧ Below w.heap.size w w' := by
  have F := Lib.hid (fFew ao cap ws w hin hz)
  have HP := Lib.hid hp
  have h8 := ws8_len ws
  have HO := Lib.hid (ws8_ok hg)
  have HE := Lib.hid he
  clear hp hin hz hg he
  generalize ws8 ws = us at *
  by_cases h0 : en = 0
  · subst h0
    go_enter Tryd.func3, Tryd.ntmps3
    go_wp2_with fail
    refine F.out.mono ?_; rintro e w1 ⟨oo, oc, rfl, -, hb⟩
    have HP1 := Lib.hid (pow_later HP.out hb)
    go_wp2_with fail
    refine (fLives _ HP1.out).mono ?_; rintro e w2 ⟨rfl, hb2⟩
    go_wp2_with fail
    go_ret
    exact ⟨rfl, hb.up hb2⟩
  · have e0 := ne_b h0
    go_enter Tryd.func3, Tryd.ntmps3
    go_wp2_with fail
    refine F.out.mono ?_; rintro e w1 ⟨oo, oc, rfl, hw, hb⟩
    have HP1 := Lib.hid (pow_later HP.out hb)
    have HW := Lib.hid hw
    clear hw F HP
    go_wp2_with fail
    refine (fWrapped oo oc us en _ HW.out (by omega)).mono ?_; rintro e w2 ⟨v, rfl, hc, hb2⟩
    have HP2 := Lib.hid (pow_later HP1.out hb2)
    have G1 := Lib.hid (fTextC v w2 (fun _ _ h => ⟨_, h.1⟩) (fText HE.out us v w2 hc HO.out (by omega) HP2.out))
    have HW2 := Lib.hid (win_later HW.out hb2)
    have hb3 := hb.up hb2
    clear hc HP1 HW hb hb2
    go_wp2_with fail
    refine G1.out.mono ?_; rintro e w3 ⟨rfl, hb4⟩
    have HW3 := Lib.hid (win_later HW2.out hb4)
    have HP3 := Lib.hid (pow_later HP2.out hb4)
    have hb5 := hb3.up hb4
    clear hb3 hb4 HW2 HP2 G1
    go_wp2_with fail
    refine (fTextR oo oc us en _ HW3.out (by omega) HO.out HE.out).mono ?_; rintro e w4 ⟨rfl, hb6⟩
    have HP4 := Lib.hid (pow_later HP3.out hb6)
    have hb7 := hb5.up hb6
    clear hb5 hb6 HW3 HP3
    go_wp2_with fail
    refine (fLives _ HP4.out).mono ?_; rintro e w5 ⟨rfl, hb8⟩
    go_wp2_with fail
    go_ret
    exact ⟨rfl, hb7.up hb8⟩
end Go.Proofs.YtkbfhnhdlcbidaaDoor
