/-
  Whether two slices of numbers, of offers, of reports are one.
  Conditions: their cells lie in the world.
-/
import Derived.Test.YtmnkekepccdlcaaGreatDoorWRSame
namespace Go.Proofs.YtmnkekepccdlcaaGreatDoor
set_option linter.unusedVariables false
set_option linter.unusedSimpArgs false
open Go.RowKit

set_option maxHeartbeats 8000000 in
set_option maxRecDepth 100000 in
theorem xEq1 (l m : List Int) (ao bo : Option Addr) (ca cb : Nat) (w : World) (hd : ∀ k (_ : k < l.length), ∃ g off, ao = some ⟨g, off, none⟩ ∧ ∀ w', Below w.heap.size w w' → w'.cell? ⟨g, off + k, none⟩ = some (.int .i64 l[k])) (hd2 : ∀ k (_ : k < m.length), ∃ g off, bo = some ⟨g, off, none⟩ ∧ ∀ w', Below w.heap.size w w' → w'.cell? ⟨g, off + k, none⟩ = some (.int .i64 m[k])) (hl : l.length ≤ 1000000) :
    Calls Tryz.prog 63 #[.slice ao l.length ca, .slice bo m.length cb] w fun e w' => e = .returned (.bool (decide (l = m))) ∧ Below w.heap.size w w' := by
  have A := Lib.hid hd
  have B := Lib.hid hd2
  clear hd hd2
  by_cases cl : l.length = m.length
  case neg =>
    have cli : ¬ ((l.length : Int) = (m.length : Int)) := by omega
    have clb := ne_b cli
    have cln : ((l.length : Int) != (m.length : Int)) = true := by simp [bne, clb]
    have HF : Hid (decide (l = m) = false) := Lib.hid (decide_eq_false (fun e => by subst e; exact cl rfl))
    go_enter Tryz.func63, Tryz.ntmps63
    go_wp2_with fail
    go_ret
    exact ⟨by rw [HF.out]; rfl, Below.refl _ _⟩
  have clb : ((l.length : Int) == (m.length : Int)) = true := beq_iff_eq.2 (by omega)
  have cln : ((l.length : Int) != (m.length : Int)) = false := by simp only [bne, clb, Bool.not_true]
  have CL := Lib.hid cl
  clear cl
  obtain ⟨V, hV⟩ : ∃ V, decide (l = m) = V := ⟨_, rfl⟩
  rw [hV]
  have HO : Hid (¬ l = m → V = false) := Lib.hid fun c => by rw [← hV]; exact decide_eq_false c
  have HT : Hid (l = m → V = true) := Lib.hid fun c => by rw [← hV]; exact decide_eq_true c
  clear hV
  go_enter Tryz.func63, Tryz.ntmps63
  go_wp2_with fail
  go_loopw [13] (fun iv wx => ∃ k : Nat, iv = .int .i64 k ∧ k ≤ l.length ∧ Hid (l.take k = m.take k) ∧ Below w.heap.size w wx) (fun iv _ => l.length - (intOf iv).toNat)
  case atStart => exact ⟨0, rfl, Nat.zero_le _, Lib.hid rfl, Below.refl _ _⟩
  case round =>
    obtain ⟨k, rfl, hk, hE, hbw⟩ := hrel
    have e0 : (0 : Int) ≤ (k : Int) := by omega
    have hr := Below.refl wr.heap.size wr
    by_cases hlt : k < l.length
    · have e1 : (k : Int) < (l.length : Int) := by omega
      have hl2 : k < m.length := by have := CL.out; omega
      have e2 : (k : Int) < (m.length : Int) := by omega
      obtain ⟨g, off, rfl, q0⟩ := A.out k hlt
      obtain ⟨g2, off2, rfl, q1⟩ := B.out k hl2
      have q2 := fun w' (hw : Below wr.heap.size wr w') => q0 w' (hbw.up hw)
      have q3 := fun w' (hw : Below wr.heap.size wr w') => q1 w' (hbw.up hw)
      have HN : Hid (¬ l[k] = m[k] → V = false) := Lib.hid fun c => HO.out (lst_ne hlt hl2 c)
      have HY : Hid (l[k] = m[k] → l.take (k + 1) = m.take (k + 1)) := Lib.hid fun e => lst_next hlt hl2 hE.out e
      generalize l[k] = x at *
      generalize m[k] = y at *
      clear q0 q1 hE
      by_cases c_x : x = y
      case neg =>
        have c_x_b : (x == y) = false := beq_eq_false_iff_ne.2 c_x
        have HV := Lib.hid (HN.out (fun e => c_x (by first | exact e | (cases e; rfl))))
        go_upto_region 6 with fail
        refine wp_region_later wr.heap.size (by kernel_rfl) (by kernel_rfl) ?_
        have hu : ∀ u : Later wr.heap.size wr, Below wr.heap.size wr u.world := Later.below
        repeat (go_big_quiet_step ((fail)))
        refine wpQuiet_nil ?_
        intro w9 b9
        have hb9 := hbw.up b9
        clear hu hr q2 q3
        go_wp2_with fail
        go_ret
        exact ⟨by rw [HV.out]; rfl, hb9⟩
      subst c_x
      have HA := Lib.hid (HY.out rfl)
      go_upto_region 6 with fail
      refine wp_region_later wr.heap.size (by kernel_rfl) (by kernel_rfl) ?_
      have hu : ∀ u : Later wr.heap.size wr, Below wr.heap.size wr u.world := Later.below
      repeat (go_big_quiet_step ((fail)))
      refine wpQuiet_nil ?_
      intro w9 b9
      have hb9 := hbw.up b9
      clear hu hr q2 q3
      go_wp2_with fail
      go_roundw
      case rel => exact ⟨k + 1, by go_num, by omega, HA, hb9⟩
      case measure => simp [intOf]; omega
    · obtain rfl : k = l.length := by omega
      have e1 : ¬ ((l.length : Int) < (l.length : Int)) := by omega
      have HV := Lib.hid (HT.out (lst_all CL.out hE.out))
      go_wp2_with fail
      go_ret
      exact ⟨by rw [HV.out]; rfl, hbw⟩
set_option maxHeartbeats 8000000 in
set_option maxRecDepth 100000 in
theorem xEq2 (l m : List Off) (ao bo : Option Addr) (ca cb : Nat) (w : World) (hd : ∀ k (_ : k < l.length), ∃ g off, ao = some ⟨g, off, none⟩ ∧ ∀ w', Below w.heap.size w w' → w'.cell? ⟨g, off + k * 3, none⟩ = some (.int .i64 l[k].id) ∧ w'.cell? ⟨g, off + k * 3 + 1, none⟩ = some (.string l[k].bytes) ∧ w'.cell? ⟨g, off + k * 3 + 2, none⟩ = some (.bool l[k].eof)) (hd2 : ∀ k (_ : k < m.length), ∃ g off, bo = some ⟨g, off, none⟩ ∧ ∀ w', Below w.heap.size w w' → w'.cell? ⟨g, off + k * 3, none⟩ = some (.int .i64 m[k].id) ∧ w'.cell? ⟨g, off + k * 3 + 1, none⟩ = some (.string m[k].bytes) ∧ w'.cell? ⟨g, off + k * 3 + 2, none⟩ = some (.bool m[k].eof)) (hl : l.length ≤ 1000000) :
    Calls Tryz.prog 64 #[.slice ao l.length ca, .slice bo m.length cb] w fun e w' => e = .returned (.bool (decide (l = m))) ∧ Below w.heap.size w w' := by
  have A := Lib.hid hd
  have B := Lib.hid hd2
  clear hd hd2
  by_cases cl : l.length = m.length
  case neg =>
    have cli : ¬ ((l.length : Int) = (m.length : Int)) := by omega
    have clb := ne_b cli
    have cln : ((l.length : Int) != (m.length : Int)) = true := by simp [bne, clb]
    have HF : Hid (decide (l = m) = false) := Lib.hid (decide_eq_false (fun e => by subst e; exact cl rfl))
    go_enter Tryz.func64, Tryz.ntmps64
    go_wp2_with fail
    go_ret
    exact ⟨by rw [HF.out]; rfl, Below.refl _ _⟩
  have clb : ((l.length : Int) == (m.length : Int)) = true := beq_iff_eq.2 (by omega)
  have cln : ((l.length : Int) != (m.length : Int)) = false := by simp only [bne, clb, Bool.not_true]
  have CL := Lib.hid cl
  clear cl
  obtain ⟨V, hV⟩ : ∃ V, decide (l = m) = V := ⟨_, rfl⟩
  rw [hV]
  have HO : Hid (¬ l = m → V = false) := Lib.hid fun c => by rw [← hV]; exact decide_eq_false c
  have HT : Hid (l = m → V = true) := Lib.hid fun c => by rw [← hV]; exact decide_eq_true c
  clear hV
  go_enter Tryz.func64, Tryz.ntmps64
  go_wp2_with fail
  go_loopw [13] (fun iv wx => ∃ k : Nat, iv = .int .i64 k ∧ k ≤ l.length ∧ Hid (l.take k = m.take k) ∧ Below w.heap.size w wx) (fun iv _ => l.length - (intOf iv).toNat)
  case atStart => exact ⟨0, rfl, Nat.zero_le _, Lib.hid rfl, Below.refl _ _⟩
  case round =>
    obtain ⟨k, rfl, hk, hE, hbw⟩ := hrel
    have e0 : (0 : Int) ≤ (k : Int) := by omega
    have hr := Below.refl wr.heap.size wr
    by_cases hlt : k < l.length
    · have e1 : (k : Int) < (l.length : Int) := by omega
      have hl2 : k < m.length := by have := CL.out; omega
      have e2 : (k : Int) < (m.length : Int) := by omega
      obtain ⟨g, off, rfl, q0⟩ := A.out k hlt
      obtain ⟨g2, off2, rfl, q1⟩ := B.out k hl2
      have q2 := fun w' (hw : Below wr.heap.size wr w') => q0 w' (hbw.up hw)
      have q3 := fun w' (hw : Below wr.heap.size wr w') => q1 w' (hbw.up hw)
      have HN : Hid (¬ l[k] = m[k] → V = false) := Lib.hid fun c => HO.out (lst_ne hlt hl2 c)
      have HY : Hid (l[k] = m[k] → l.take (k + 1) = m.take (k + 1)) := Lib.hid fun e => lst_next hlt hl2 hE.out e
      generalize l[k] = x at *
      generalize m[k] = y at *
      clear q0 q1 hE
      obtain ⟨xi, xb, xe⟩ := x
      obtain ⟨yi, yb, ye⟩ := y
      simp only at q2 q3
      by_cases c_xi : xi = yi
      case neg =>
        have c_xi_b : (xi == yi) = false := beq_eq_false_iff_ne.2 c_xi
        have HV := Lib.hid (HN.out (fun e => c_xi (by first | exact e | (cases e; rfl))))
        go_upto_region 6 with fail
        refine wp_region_later wr.heap.size (by kernel_rfl) (by kernel_rfl) ?_
        have hu : ∀ u : Later wr.heap.size wr, Below wr.heap.size wr u.world := Later.below
        repeat (go_big_quiet_step ((fail)))
        refine wpQuiet_nil ?_
        intro w9 b9
        have hb9 := hbw.up b9
        clear hu hr q2 q3
        go_wp2_with fail
        go_ret
        exact ⟨by rw [HV.out]; rfl, hb9⟩
      subst c_xi
      by_cases c_xb : xb = yb
      case neg =>
        have c_xb_c : decide (xb = yb) = false := decide_eq_false c_xb
        have c_xb_d : ¬ xb.data = yb.data := fun e => c_xb (ByteArray.ext e)
        have c_xb_e : (xb.data == yb.data) = false := beq_eq_false_iff_ne.2 c_xb_d
        have c_xb_b : (xb == yb) = false := c_xb_e
        have c_xb_l : (xb.data.toList == yb.data.toList) = false := beq_eq_false_iff_ne.2 (fun e => c_xb_d (Array.toList_inj.1 e))
        have c_xb_t : (xb.toList == yb.toList) = false := by rw [ByteArray.toList_eq, ByteArray.toList_eq]; exact c_xb_l
        have HV := Lib.hid (HN.out (fun e => c_xb (by first | exact e | (cases e; rfl))))
        go_upto_region 6 with fail
        refine wp_region_later wr.heap.size (by kernel_rfl) (by kernel_rfl) ?_
        have hu : ∀ u : Later wr.heap.size wr, Below wr.heap.size wr u.world := Later.below
        repeat (go_big_quiet_step ((fail)))
        refine wpQuiet_nil ?_
        intro w9 b9
        have hb9 := hbw.up b9
        clear hu hr q2 q3
        go_wp2_with fail
        go_ret
        exact ⟨by rw [HV.out]; rfl, hb9⟩
      subst c_xb
      by_cases c_xe : xe = ye
      case neg =>
        have c_xe_b : (xe == ye) = false := beq_eq_false_iff_ne.2 c_xe
        have HV := Lib.hid (HN.out (fun e => c_xe (by first | exact e | (cases e; rfl))))
        go_upto_region 6 with fail
        refine wp_region_later wr.heap.size (by kernel_rfl) (by kernel_rfl) ?_
        have hu : ∀ u : Later wr.heap.size wr, Below wr.heap.size wr u.world := Later.below
        repeat (go_big_quiet_step ((fail)))
        refine wpQuiet_nil ?_
        intro w9 b9
        have hb9 := hbw.up b9
        clear hu hr q2 q3
        go_wp2_with fail
        go_ret
        exact ⟨by rw [HV.out]; rfl, hb9⟩
      subst c_xe
      have HA := Lib.hid (HY.out rfl)
      go_upto_region 6 with fail
      refine wp_region_later wr.heap.size (by kernel_rfl) (by kernel_rfl) ?_
      have hu : ∀ u : Later wr.heap.size wr, Below wr.heap.size wr u.world := Later.below
      repeat (go_big_quiet_step ((fail)))
      refine wpQuiet_nil ?_
      intro w9 b9
      have hb9 := hbw.up b9
      clear hu hr q2 q3
      go_wp2_with fail
      go_roundw
      case rel => exact ⟨k + 1, by go_num, by omega, HA, hb9⟩
      case measure => simp [intOf]; omega
    · obtain rfl : k = l.length := by omega
      have e1 : ¬ ((l.length : Int) < (l.length : Int)) := by omega
      have HV := Lib.hid (HT.out (lst_all CL.out hE.out))
      go_wp2_with fail
      go_ret
      exact ⟨by rw [HV.out]; rfl, hbw⟩
set_option maxHeartbeats 8000000 in
set_option maxRecDepth 100000 in
theorem xEq3 (l m : List Rep) (ao bo : Option Addr) (ca cb : Nat) (w : World) (hd : ∀ k (_ : k < l.length), ∃ g off, ao = some ⟨g, off, none⟩ ∧ ∀ w', Below w.heap.size w w' → w'.cell? ⟨g, off + k * 4, none⟩ = some (.int .i64 l[k].id) ∧ w'.cell? ⟨g, off + k * 4 + 1, none⟩ = some (.bool l[k].read) ∧ w'.cell? ⟨g, off + k * 4 + 2, none⟩ = some (.bool l[k].write) ∧ w'.cell? ⟨g, off + k * 4 + 3, none⟩ = some (.int .i64 l[k].accept)) (hd2 : ∀ k (_ : k < m.length), ∃ g off, bo = some ⟨g, off, none⟩ ∧ ∀ w', Below w.heap.size w w' → w'.cell? ⟨g, off + k * 4, none⟩ = some (.int .i64 m[k].id) ∧ w'.cell? ⟨g, off + k * 4 + 1, none⟩ = some (.bool m[k].read) ∧ w'.cell? ⟨g, off + k * 4 + 2, none⟩ = some (.bool m[k].write) ∧ w'.cell? ⟨g, off + k * 4 + 3, none⟩ = some (.int .i64 m[k].accept)) (hl : l.length ≤ 1000000) :
    Calls Tryz.prog 65 #[.slice ao l.length ca, .slice bo m.length cb] w fun e w' => e = .returned (.bool (decide (l = m))) ∧ Below w.heap.size w w' := by
  have A := Lib.hid hd
  have B := Lib.hid hd2
  clear hd hd2
  by_cases cl : l.length = m.length
  case neg =>
    have cli : ¬ ((l.length : Int) = (m.length : Int)) := by omega
    have clb := ne_b cli
    have cln : ((l.length : Int) != (m.length : Int)) = true := by simp [bne, clb]
    have HF : Hid (decide (l = m) = false) := Lib.hid (decide_eq_false (fun e => by subst e; exact cl rfl))
    go_enter Tryz.func65, Tryz.ntmps65
    go_wp2_with fail
    go_ret
    exact ⟨by rw [HF.out]; rfl, Below.refl _ _⟩
  have clb : ((l.length : Int) == (m.length : Int)) = true := beq_iff_eq.2 (by omega)
  have cln : ((l.length : Int) != (m.length : Int)) = false := by simp only [bne, clb, Bool.not_true]
  have CL := Lib.hid cl
  clear cl
  obtain ⟨V, hV⟩ : ∃ V, decide (l = m) = V := ⟨_, rfl⟩
  rw [hV]
  have HO : Hid (¬ l = m → V = false) := Lib.hid fun c => by rw [← hV]; exact decide_eq_false c
  have HT : Hid (l = m → V = true) := Lib.hid fun c => by rw [← hV]; exact decide_eq_true c
  clear hV
  go_enter Tryz.func65, Tryz.ntmps65
  go_wp2_with fail
  go_loopw [13] (fun iv wx => ∃ k : Nat, iv = .int .i64 k ∧ k ≤ l.length ∧ Hid (l.take k = m.take k) ∧ Below w.heap.size w wx) (fun iv _ => l.length - (intOf iv).toNat)
  case atStart => exact ⟨0, rfl, Nat.zero_le _, Lib.hid rfl, Below.refl _ _⟩
  case round =>
    obtain ⟨k, rfl, hk, hE, hbw⟩ := hrel
    have e0 : (0 : Int) ≤ (k : Int) := by omega
    have hr := Below.refl wr.heap.size wr
    by_cases hlt : k < l.length
    · have e1 : (k : Int) < (l.length : Int) := by omega
      have hl2 : k < m.length := by have := CL.out; omega
      have e2 : (k : Int) < (m.length : Int) := by omega
      obtain ⟨g, off, rfl, q0⟩ := A.out k hlt
      obtain ⟨g2, off2, rfl, q1⟩ := B.out k hl2
      have q2 := fun w' (hw : Below wr.heap.size wr w') => q0 w' (hbw.up hw)
      have q3 := fun w' (hw : Below wr.heap.size wr w') => q1 w' (hbw.up hw)
      have HN : Hid (¬ l[k] = m[k] → V = false) := Lib.hid fun c => HO.out (lst_ne hlt hl2 c)
      have HY : Hid (l[k] = m[k] → l.take (k + 1) = m.take (k + 1)) := Lib.hid fun e => lst_next hlt hl2 hE.out e
      generalize l[k] = x at *
      generalize m[k] = y at *
      clear q0 q1 hE
      obtain ⟨xi, xr, xw, xa⟩ := x
      obtain ⟨yi, yr, yw, ya⟩ := y
      simp only at q2 q3
      by_cases c_xi : xi = yi
      case neg =>
        have c_xi_b : (xi == yi) = false := beq_eq_false_iff_ne.2 c_xi
        have HV := Lib.hid (HN.out (fun e => c_xi (by first | exact e | (cases e; rfl))))
        go_upto_region 6 with fail
        refine wp_region_later wr.heap.size (by kernel_rfl) (by kernel_rfl) ?_
        have hu : ∀ u : Later wr.heap.size wr, Below wr.heap.size wr u.world := Later.below
        repeat (go_big_quiet_step ((fail)))
        refine wpQuiet_nil ?_
        intro w9 b9
        have hb9 := hbw.up b9
        clear hu hr q2 q3
        go_wp2_with fail
        go_ret
        exact ⟨by rw [HV.out]; rfl, hb9⟩
      subst c_xi
      by_cases c_xr : xr = yr
      case neg =>
        have c_xr_b : (xr == yr) = false := beq_eq_false_iff_ne.2 c_xr
        have HV := Lib.hid (HN.out (fun e => c_xr (by first | exact e | (cases e; rfl))))
        go_upto_region 6 with fail
        refine wp_region_later wr.heap.size (by kernel_rfl) (by kernel_rfl) ?_
        have hu : ∀ u : Later wr.heap.size wr, Below wr.heap.size wr u.world := Later.below
        repeat (go_big_quiet_step ((fail)))
        refine wpQuiet_nil ?_
        intro w9 b9
        have hb9 := hbw.up b9
        clear hu hr q2 q3
        go_wp2_with fail
        go_ret
        exact ⟨by rw [HV.out]; rfl, hb9⟩
      subst c_xr
      by_cases c_xw : xw = yw
      case neg =>
        have c_xw_b : (xw == yw) = false := beq_eq_false_iff_ne.2 c_xw
        have HV := Lib.hid (HN.out (fun e => c_xw (by first | exact e | (cases e; rfl))))
        go_upto_region 6 with fail
        refine wp_region_later wr.heap.size (by kernel_rfl) (by kernel_rfl) ?_
        have hu : ∀ u : Later wr.heap.size wr, Below wr.heap.size wr u.world := Later.below
        repeat (go_big_quiet_step ((fail)))
        refine wpQuiet_nil ?_
        intro w9 b9
        have hb9 := hbw.up b9
        clear hu hr q2 q3
        go_wp2_with fail
        go_ret
        exact ⟨by rw [HV.out]; rfl, hb9⟩
      subst c_xw
      by_cases c_xa : xa = ya
      case neg =>
        have c_xa_b : (xa == ya) = false := beq_eq_false_iff_ne.2 c_xa
        have HV := Lib.hid (HN.out (fun e => c_xa (by first | exact e | (cases e; rfl))))
        go_upto_region 6 with fail
        refine wp_region_later wr.heap.size (by kernel_rfl) (by kernel_rfl) ?_
        have hu : ∀ u : Later wr.heap.size wr, Below wr.heap.size wr u.world := Later.below
        repeat (go_big_quiet_step ((fail)))
        refine wpQuiet_nil ?_
        intro w9 b9
        have hb9 := hbw.up b9
        clear hu hr q2 q3
        go_wp2_with fail
        go_ret
        exact ⟨by rw [HV.out]; rfl, hb9⟩
      subst c_xa
      have HA := Lib.hid (HY.out rfl)
      go_upto_region 6 with fail
      refine wp_region_later wr.heap.size (by kernel_rfl) (by kernel_rfl) ?_
      have hu : ∀ u : Later wr.heap.size wr, Below wr.heap.size wr u.world := Later.below
      repeat (go_big_quiet_step ((fail)))
      refine wpQuiet_nil ?_
      intro w9 b9
      have hb9 := hbw.up b9
      clear hu hr q2 q3
      go_wp2_with fail
      go_roundw
      case rel => exact ⟨k + 1, by go_num, by omega, HA, hb9⟩
      case measure => simp [intOf]; omega
    · obtain rfl : k = l.length := by omega
      have e1 : ¬ ((l.length : Int) < (l.length : Int)) := by omega
      have HV := Lib.hid (HT.out (lst_all CL.out hE.out))
      go_wp2_with fail
      go_ret
      exact ⟨by rw [HV.out]; rfl, hbw⟩

set_option maxHeartbeats 8000000 in
set_option maxRecDepth 100000 in
theorem xSame (h1 h2 : Hd) (r1 r2 : Rd) (w : World) (ha : RAt w h1 r1) (hb : RAt w h2 r2) (hs1 : Sml 1000000 [r1]) :
    Calls Tryz.prog 38 #[.agg (rC h1 r1).toArray, .agg (rC h2 r2).toArray] w fun e w' => e = .returned (.bool (decide (r1 = r2))) ∧ Below w.heap.size w w' := by
  obtain ⟨w0, hw0⟩ : ∃ w0, (w.alloc (.cells (rC h1 r1).toArray 59)).alloc (.cells (rC h2 r2).toArray 59) = w0 := ⟨_, rfl⟩
  have k0 : Blk w0 w.heap.size 59 (rC h1 r1).toArray := by rw [← hw0]; exact (Blk.new _ _ _).alloc _
  have k1 : Blk w0 (w.heap.size + 1) 59 (rC h2 r2).toArray := by
    rw [← hw0]
    simpa using Blk.new (w.alloc (.cells (rC h1 r1).toArray 59)) 59 (rC h2 r2).toArray
  have b0 : Below w.heap.size w w0 := by rw [← hw0]; exact ((Below.refl _ _).alloc (Nat.le_refl _) _).alloc (by simp) _
  have a0 := ha.later b0
  have a1 := hb.later b0
  obtain ⟨s1, s2, s3⟩ := hs1.2 r1 (by simp)
  have HW0 := Lib.hid hw0
  obtain ⟨t1, o1, f1, p1, d1, z1⟩ := r1
  obtain ⟨t2, o2, f2, p2, d2, z2⟩ := r2
  obtain ⟨oa, oc, fa, fc, pa, pc⟩ := h1
  obtain ⟨oA, oC, fA, fC, pA, pC⟩ := h2
  unfold rC at k0 k1 HW0 ⊢
  simp only at k0 k1 HW0 s1 s2 s3 ⊢
  have F1 : Hid (∀ w', Below w0.heap.size w0 w' → Calls Tryz.prog 63 #[.slice oa o1.length oc, .slice oA o2.length oC] w' fun e w'' => e = .returned (.bool (decide (o1 = o2))) ∧ Below w'.heap.size w' w'') := Lib.hid fun w' hw => xEq1 o1 o2 oa oA oc oC w' (a0.later hw).os (a1.later hw).os s1
  have F2 : Hid (∀ w', Below w0.heap.size w0 w' → Calls Tryz.prog 64 #[.slice fa f1.length fc, .slice fA f2.length fC] w' fun e w'' => e = .returned (.bool (decide (f1 = f2))) ∧ Below w'.heap.size w' w'') := Lib.hid fun w' hw => xEq2 f1 f2 fa fA fc fC w' (a0.later hw).fs (a1.later hw).fs s2
  have F3 : Hid (∀ w', Below w0.heap.size w0 w' → Calls Tryz.prog 65 #[.slice pa p1.length pc, .slice pA p2.length pC] w' fun e w'' => e = .returned (.bool (decide (p1 = p2))) ∧ Below w'.heap.size w' w'') := Lib.hid fun w' hw => xEq3 p1 p2 pa pA pc pC w' (a0.later hw).ps (a1.later hw).ps s3
  have KA := Lib.hid k0
  have KB := Lib.hid k1
  have BB := Lib.hid b0
  have da := k0.at6
  have db := k1.at6
  have hr := Below.refl w0.heap.size w0
  clear hw0 ha hb k0 k1 a0 a1 b0 hs1
  by_cases ct1 : t1 = t2
  case neg =>
    have ct1b := ne_b ct1
    have HF : Hid (decide ((⟨t1, o1, f1, p1, d1, z1⟩ : Rd) = ⟨t2, o2, f2, p2, d2, z2⟩) = false) := Lib.hid (decide_eq_false (fun e => by cases e; exact ct1 rfl))
    go_enter Tryz.func38, Tryz.ntmps38
    go_upto_region 1 with fail
    rw [HW0.out]
    go_wp2_with fail
    go_ret
    exact ⟨by rw [HF.out]; rfl, BB.out⟩
  subst ct1
  by_cases cd1 : d1 = d2
  case neg =>
    have cd1b := ne_b cd1
    have HF : Hid (decide ((⟨t1, o1, f1, p1, d1, z1⟩ : Rd) = ⟨t1, o2, f2, p2, d2, z2⟩) = false) := Lib.hid (decide_eq_false (fun e => by cases e; exact cd1 rfl))
    go_enter Tryz.func38, Tryz.ntmps38
    go_upto_region 1 with fail
    rw [HW0.out]
    go_wp2_with fail
    go_ret
    exact ⟨by rw [HF.out]; rfl, BB.out⟩
  subst cd1
  by_cases cz : z1 = z2
  case neg =>
    have czb : (z1 == z2) = false := beq_eq_false_iff_ne.2 cz
    have HF : Hid (decide ((⟨t1, o1, f1, p1, d1, z1⟩ : Rd) = ⟨t1, o2, f2, p2, d1, z2⟩) = false) := Lib.hid (decide_eq_false (fun e => by cases e; exact cz rfl))
    go_enter Tryz.func38, Tryz.ntmps38
    go_upto_region 1 with fail
    rw [HW0.out]
    go_wp2_with fail
    go_ret
    exact ⟨by rw [HF.out]; rfl, BB.out⟩
  subst cz
  by_cases co : o1 = o2
  case neg =>
    rw [decide_eq_false co] at F1
    have HF : Hid (decide ((⟨t1, o1, f1, p1, d1, z1⟩ : Rd) = ⟨t1, o2, f2, p2, d1, z1⟩) = false) := Lib.hid (decide_eq_false (fun e => by cases e; exact co rfl))
    go_enter Tryz.func38, Tryz.ntmps38
    go_upto_region 1 with fail
    rw [HW0.out]
    go_wp2_with fail
    refine (F1.out _ (Below.refl _ _)).mono ?_; rintro e w1 ⟨rfl, b1⟩
    go_wp2_with fail
    go_ret
    exact ⟨by rw [HF.out]; rfl, BB.out.up b1⟩
  rw [decide_eq_true co] at F1
  by_cases cf : f1 = f2
  case neg =>
    rw [decide_eq_false cf] at F2
    have HF : Hid (decide ((⟨t1, o1, f1, p1, d1, z1⟩ : Rd) = ⟨t1, o2, f2, p2, d1, z1⟩) = false) := Lib.hid (decide_eq_false (fun e => by cases e; exact cf rfl))
    have CO := Lib.hid co
    clear co
    go_enter Tryz.func38, Tryz.ntmps38
    go_upto_region 1 with fail
    rw [HW0.out]
    go_wp2_with fail
    refine (F1.out _ (Below.refl _ _)).mono ?_; rintro e w1 ⟨rfl, b1⟩
    have da1 := (KA.out.later b1).at6
    have db1 := (KB.out.later b1).at6
    have hr1 := Below.refl w1.heap.size w1
    clear da db hr
    go_wp2_with fail
    refine (F2.out _ b1).mono ?_; rintro e w2 ⟨rfl, b2⟩
    have b12 := b1.up b2
    go_wp2_with fail
    go_ret
    exact ⟨by rw [HF.out]; rfl, BB.out.up b12⟩
  rw [decide_eq_true cf] at F2
  by_cases cp : p1 = p2
  case neg =>
    rw [decide_eq_false cp] at F3
    have HF : Hid (decide ((⟨t1, o1, f1, p1, d1, z1⟩ : Rd) = ⟨t1, o2, f2, p2, d1, z1⟩) = false) := Lib.hid (decide_eq_false (fun e => by cases e; exact cp rfl))
    clear co cf
    go_enter Tryz.func38, Tryz.ntmps38
    go_upto_region 1 with fail
    rw [HW0.out]
    go_wp2_with fail
    refine (F1.out _ (Below.refl _ _)).mono ?_; rintro e w1 ⟨rfl, b1⟩
    have da1 := (KA.out.later b1).at6
    have db1 := (KB.out.later b1).at6
    have hr1 := Below.refl w1.heap.size w1
    clear da db hr
    go_wp2_with fail
    refine (F2.out _ b1).mono ?_; rintro e w2 ⟨rfl, b2⟩
    have b12 := b1.up b2
    have da2 := (KA.out.later b12).at6
    have db2 := (KB.out.later b12).at6
    have hr2 := Below.refl w2.heap.size w2
    clear da1 db1 hr1
    go_wp2_with fail
    refine (F3.out _ b12).mono ?_; rintro e w3 ⟨rfl, b3⟩
    go_wp2_with fail
    go_ret
    exact ⟨by rw [HF.out]; rfl, (BB.out.up b12).up b3⟩
  rw [decide_eq_true cp] at F3
  have HF : Hid (decide ((⟨t1, o1, f1, p1, d1, z1⟩ : Rd) = ⟨t1, o2, f2, p2, d1, z1⟩) = true) := Lib.hid (decide_eq_true (by rw [co, cf, cp]))
  clear co cf cp
  go_enter Tryz.func38, Tryz.ntmps38
  go_upto_region 1 with fail
  rw [HW0.out]
  go_wp2_with fail
  refine (F1.out _ (Below.refl _ _)).mono ?_; rintro e w1 ⟨rfl, b1⟩
  have da1 := (KA.out.later b1).at6
  have db1 := (KB.out.later b1).at6
  have hr1 := Below.refl w1.heap.size w1
  clear da db hr
  go_wp2_with fail
  refine (F2.out _ b1).mono ?_; rintro e w2 ⟨rfl, b2⟩
  have b12 := b1.up b2
  have da2 := (KA.out.later b12).at6
  have db2 := (KB.out.later b12).at6
  have hr2 := Below.refl w2.heap.size w2
  clear da1 db1 hr1
  go_wp2_with fail
  refine (F3.out _ b12).mono ?_; rintro e w3 ⟨rfl, b3⟩
  go_wp2_with fail
  go_ret
  exact ⟨by rw [HF.out]; rfl, (BB.out.up b12).up b3⟩
end Go.Proofs.YtmnkekepccdlcaaGreatDoor
