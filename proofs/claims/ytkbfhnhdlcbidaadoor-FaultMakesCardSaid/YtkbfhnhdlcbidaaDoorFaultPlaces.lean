/-
  The walk of FaultPlaces: true for all arguments.
  Conditions: a slice of at most the longest length, the tables of the numbers' texts and the handle of the type error laid.
-/
import Derived.Test.YtkbfhnhdlcbidaaDoorFaultTexts
import Derived.Test.YtkbfhnhdlcbidaaDoorErrIs
namespace Go.Proofs.YtkbfhnhdlcbidaaDoor
open Go.RowKit Go.Sort

def atL (us : List Wr) : Int := (us.find? (·.at_)).map (·.line) |>.getD 0
def atC (us : List Wr) : Int := (us.find? (·.at_)).map (·.col) |>.getD 0
def atS (us : List Wr) : Bool := (us.find? (·.at_)).isSome
def inN (us : List Wr) : ByteArray := (us.find? (fun W => !W.at_)).map (·.name) |>.getD ⟨#[]⟩
def inS (us : List Wr) : Bool := (us.find? (fun W => !W.at_)).isSome
theorem fWhereD (en : Int) (ws : List Wr) (v : Value) (w : World) (hc : Chain w en ws v) (hg : HandleE w) :
    Calls Tryd.prog 16 #[v] w fun e w' => e = .returned (.tuple #[.agg #[.int .i64 (atL ws), .int .i64 (atC ws)], .bool (atS ws)]) ∧ Below w.heap.size w w' := fWhere en ws v w hc hg
theorem fWhoD (en : Int) (ws : List Wr) (v : Value) (w : World) (hc : Chain w en ws v) (hg : HandleE w) :
    Calls Tryd.prog 17 #[v] w fun e w' => e = .returned (.tuple #[.string (inN ws), .bool (inS ws)]) ∧ Below w.heap.size w w' := fWho en ws v w hc hg

set_option maxHeartbeats 2000000 in
set_option maxRecDepth 100000 in
theorem faultPlaces (ao : Option Addr) (cap : Nat) (ws : List Wr) (en : Int) (w : World) (hin : WIn w ao ws) (hz : ws.length ≤ maxLen) (hp : Pow w) (hh : HandleE w) :
    Calls Tryd.prog 4 #[.slice ao ws.length cap, .int .i64 en] w fun e w' => e = .returned (.bool true) ∧ Below w.heap.size w w' := by
  have F := Lib.hid (fFew ao cap ws w hin hz)
  have HP := Lib.hid hp
  have HH := Lib.hid hh
  have h8 := ws8_len ws
  clear hp hin hz hh
  generalize ws8 ws = us at *
  by_cases h0 : en = 0
  · subst h0
    go_enter Tryd.func4, Tryd.ntmps4
    go_wp2_with fail
    refine F.out.mono ?_; rintro e w1 ⟨oo, oc, rfl, -, hb⟩
    have HP1 := Lib.hid (pow_later HP.out hb)
    go_wp2_with fail
    refine (fLives _ HP1.out).mono ?_; rintro e w4 ⟨rfl, hb4⟩
    go_wp2_with fail
    go_ret
    exact ⟨rfl, hb.up hb4⟩
  · have e0 := ne_b h0
    go_enter Tryd.func4, Tryd.ntmps4
    go_wp2_with fail
    refine F.out.mono ?_; rintro e w1 ⟨oo, oc, rfl, hw, hb⟩
    have HW := Lib.hid hw
    clear hw F
    go_wp2_with fail
    refine (fWrapped oo oc us en _ HW.out (by omega)).mono ?_; rintro e w2 ⟨v, rfl, hc, hb2⟩
    have hb3 := hb.up hb2
    have HC := Lib.hid hc
    have HH2 := Lib.hid (handle_later HH.out hb3)
    have HW2 := Lib.hid (win_later HW.out hb2)
    clear hc HW hb hb2
    go_wp2_with fail
    refine (fWhereD en us v _ HC.out HH2.out).mono ?_; rintro e w3 ⟨rfl, hb4⟩
    go_upto_region 6 with fail
    generalize hwa : w3.alloc (.cells #[.int .i64 (atL us), .int .i64 (atC us)] 33) = wa
    obtain ⟨q, hq⟩ : ∃ q, w3.heap.size = q := ⟨_, rfl⟩
    have k1 : Blk wa q 33 #[.int .i64 (atL us), .int .i64 (atC us)] := by rw [← hwa, ← hq]; exact Blk.new _ _ _
    have hb4a : Below w2.heap.size w2 wa := by rw [← hwa]; exact hb4.alloc hb4.size _
    rw [hq]
    clear hwa hq hb4
    have HC3 := Lib.hid (chain_later hb4a HC.out)
    have HH3 := Lib.hid (handle_later HH2.out hb4a)
    go_wp2_with fail
    refine (fWhoD en us v _ HC3.out HH3.out).mono ?_; rintro e w5 ⟨rfl, hb5⟩
    go_upto_region 8 with fail
    generalize hwb : w5.alloc (.cells #[.int .i64 0, .int .i64 0] 33) = wb
    obtain ⟨r, hr⟩ : ∃ r, w5.heap.size = r := ⟨_, rfl⟩
    have k2 : Blk wb r 33 #[.int .i64 0, .int .i64 0] := by rw [← hwb, ← hr]; exact Blk.new _ _ _
    have hb5a : Below wa.heap.size wa wb := by rw [← hwb]; exact hb5.alloc hb5.size _
    rw [hr]
    have k1b := k1.later hb5a
    have hqr : q ≠ r := by have := k1.lt; have := hb5.size; omega
    have hrw : w1.heap.size ≤ w1.heap.size := Nat.le_refl _
    have hb6 : Below w2.heap.size w2 wb := hb4a.up hb5a
    have hrB : w2.heap.size ≤ r := by have := hb4a.size; have := hb5.size; omega
    clear hwb hr k1 hb5 hb5a hb4a HC3 HH3 HC HH2
    have K2 := Lib.hid k2
    have K1 := Lib.hid k1b
    have HB6 := Lib.hid hb6
    clear k2 k1b hb6
    go_wp2_with fail
    go_loopw [11, 12, 13, 14] (fun sv nv av iv wr => ∃ k : Nat, iv = .int .i64 ((k : Int) - 1) ∧ k ≤ us.length ∧ sv = .bool (atS (us.drop k)) ∧ nv = .string (inN (us.drop k)) ∧ av = .bool (inS (us.drop k)) ∧
      Blk wr r 33 #[.int .i64 (atL (us.drop k)), .int .i64 (atC (us.drop k))] ∧ Blk wr q 33 #[.int .i64 (atL us), .int .i64 (atC us)] ∧ Below w2.heap.size w2 wr) (fun _ _ _ iv _ => (intOf iv + 1).toNat)
    case atStart => exact ⟨us.length, rfl, Nat.le_refl _, by rw [List.drop_length]; rfl, by rw [List.drop_length]; rfl, by rw [List.drop_length]; rfl, by rw [List.drop_length]; exact K2.out, K1.out, HB6.out⟩
    case round =>
      obtain ⟨k, rfl, hk, rfl, rfl, rfl, kr, kq, hbr⟩ := hrel
      clear K1 K2 HB6
      rcases k with _ | m
      · rw [List.drop_zero] at *
        have dq := kq.at2
        have dr := kr.at2
        have hrr := Below.refl wr.heap.size wr
        have HP3 := Lib.hid (pow_later HP.out (hb3.up hbr))
        generalize atL us = xl at *
        generalize atC us = xc at *
        generalize atS us = xs at *
        generalize inN us = xn at *
        generalize inS us = xi at *
        go_wp2_with fail
        refine (fLives _ HP3.out).mono ?_; rintro e w9 ⟨rfl, hb9⟩
        go_wp2_with fail
        go_ret
        exact ⟨rfl, (hb3.up hbr).up hb9⟩
      · obtain ⟨b, off, rfl, hz1⟩ := HW2.out m hk
        have dz : ∀ w', Below wr.heap.size wr w' → w'.cell? ⟨b, off + m * 4, none⟩ = some (.bool us[m].at_) ∧ w'.cell? ⟨b, off + m * 4 + 1, none⟩ = some (.int .i64 us[m].line) ∧ w'.cell? ⟨b, off + m * 4 + 2, none⟩ = some (.int .i64 us[m].col) ∧ w'.cell? ⟨b, off + m * 4 + 3, none⟩ = some (.string us[m].name) := fun w' h => hz1 w' (hbr.up h)
        have hD := drop_wr hk
        have em : ((m + 1 : Nat) : Int) - 1 = (m : Int) := by omega
        rw [em]
        have e0 : (0 : Int) ≤ (m : Int) := by omega
        have e1 : (m : Int) < (us.length : Int) := by omega
        generalize us[m] = V at *
        obtain ⟨va, vl, vc, vn⟩ := V
        simp only at dz
        have dr := kr.at2
        have hrr := Below.refl wr.heap.size wr
        have HD := Lib.hid hD
        clear hz1 hD em
        generalize hT : us.drop (m + 1) = T at *
        have HT := Lib.hid hT
        clear hT
        cases va with
        | true =>
          generalize hS : atS T = xs
          generalize hN : inN T = xn
          generalize hI : inS T = xi
          have HS := Lib.hid (And.intro hN hI)
          clear hS hN hI
          go_wp2_with fail
          go_roundw
          case rel =>
            refine ⟨m, by go_num, by omega, ?_⟩
            rw [HD.out]
            refine ⟨rfl, by rw [← HS.out.1]; rfl, by rw [← HS.out.2]; rfl, ?_, ?_, (hbr.setCell (p := ⟨r, 0, none⟩) hrB _).setCell (p := ⟨r, 1, none⟩) hrB _⟩
            · show Blk _ r _ #[.int .i64 vl, .int .i64 vc]
              have := (kr.set_ 0 (.int .i64 vl)).set_ 1 (.int .i64 vc)
              simpa using this
            · exact (kq.far (p := ⟨r, 0, none⟩) hqr _).far (p := ⟨r, 1, none⟩) hqr _
          case measure => simp [intOf]
        | false =>
          generalize hS : atS T = xs
          generalize hN : inN T = xn
          generalize hI : inS T = xi
          have HS := Lib.hid hS
          clear hS hN hI
          go_wp2_with fail
          go_roundw
          case rel =>
            refine ⟨m, by go_num, by omega, ?_⟩
            rw [HD.out]
            exact ⟨by rw [← HS.out]; rfl, rfl, rfl, kr, kq, hbr⟩
          case measure => simp [intOf]
end Go.Proofs.YtkbfhnhdlcbidaaDoor
