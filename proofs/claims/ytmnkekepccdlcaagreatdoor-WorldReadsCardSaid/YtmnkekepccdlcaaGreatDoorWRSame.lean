/-
  Which rounds are one, as the reference tells it.
  Conditions: the rounds' rows lie in the world.
-/
import Derived.Test.YtmnkekepccdlcaaGreatDoorWgG
import Derived.Test.YtmnkekepccdlcaaGreatDoorWgF
import Derived.BigQuiet
namespace Go.Proofs.YtmnkekepccdlcaaGreatDoor
set_option linter.unusedVariables false
set_option linter.unusedSimpArgs false
open Go.RowKit

theorem lst_next {α : Type} {l m : List α} {k : Nat} (h1 : k < l.length) (h2 : k < m.length) (h : l.take k = m.take k) (e : l[k] = m[k]) : l.take (k + 1) = m.take (k + 1) := by
  rw [List.take_succ_eq_append_getElem h1, List.take_succ_eq_append_getElem h2, h, e]
theorem lst_ne {α : Type} {l m : List α} {k : Nat} (h1 : k < l.length) (h2 : k < m.length) (h : ¬ l[k] = m[k]) : ¬ l = m := fun e => by subst e; exact h rfl
theorem lst_all {α : Type} {l m : List α} (h : l.length = m.length) (e : l.take l.length = m.take l.length) : l = m := by
  rw [List.take_length, h, List.take_length] at e
  exact e

set_option maxHeartbeats 8000000 in
set_option maxRecDepth 100000 in
theorem gSame (h1 h2 : Hd) (r1 r2 : Rd) (w : World) (ha : RAt w h1 r1) (hb : RAt w h2 r2) (hs1 : Sml 1000000 [r1]) :
    Calls Tryz.prog 39 #[.agg (rC h1 r1).toArray, .agg (rC h2 r2).toArray] w fun e w' => e = .returned (.bool (decide (r1 = r2))) ∧ Below w.heap.size w w' := by
  obtain ⟨w0, hw0⟩ : ∃ w0, (w.alloc (.cells (rC h1 r1).toArray 59)).alloc (.cells (rC h2 r2).toArray 59) = w0 := ⟨_, rfl⟩
  have k0 : Blk w0 w.heap.size 59 (rC h1 r1).toArray := by rw [← hw0]; exact (Blk.new _ _ _).alloc _
  have k1 : Blk w0 (w.heap.size + 1) 59 (rC h2 r2).toArray := by
    rw [← hw0]
    simpa using Blk.new (w.alloc (.cells (rC h1 r1).toArray 59)) 59 (rC h2 r2).toArray
  have b0 : Below w.heap.size w w0 := by rw [← hw0]; exact ((Below.refl _ _).alloc (Nat.le_refl _) _).alloc (by simp) _
  have a0 := ha.later b0
  have a1 := hb.later b0
  obtain ⟨s1, s2, s3⟩ := hs1.2 r1 (by simp)
  have HW0 := Lib.hid hw0
  obtain ⟨t1, o1, f1, p1, d1, z1⟩ := r1
  obtain ⟨t2, o2, f2, p2, d2, z2⟩ := r2
  obtain ⟨oa, oc, fa, fc, pa, pc⟩ := h1
  obtain ⟨oA, oC, fA, fC, pA, pC⟩ := h2
  unfold rC at k0 k1 HW0 ⊢
  have A1 := Lib.hid a0.os
  have A2 := Lib.hid a0.fs
  have A3 := Lib.hid a0.ps
  have B1 := Lib.hid a1.os
  have B2 := Lib.hid a1.fs
  have B3 := Lib.hid a1.ps
  simp only at A1 A2 A3 B1 B2 B3 k0 k1 HW0 s1 s2 s3 ⊢
  have KA := Lib.hid k0
  have KB := Lib.hid k1
  have BB := Lib.hid b0
  have da := k0.at6
  have db := k1.at6
  have hr := Below.refl w0.heap.size w0
  clear hw0 ha hb k0 k1 a0 a1 b0 hs1
  by_cases ct1 : t1 = t2
  case neg =>
    have ct1b := ne_b ct1
    have HF : Hid (decide ((⟨t1, o1, f1, p1, d1, z1⟩ : Rd) = ⟨t2, o2, f2, p2, d2, z2⟩) = false) := Lib.hid (decide_eq_false (fun e => by cases e; exact ct1 rfl))
    go_enter Tryz.func39, Tryz.ntmps39
    go_upto_region 1 with fail
    rw [HW0.out]
    go_wp2_with fail
    go_ret
    exact ⟨by rw [HF.out]; rfl, BB.out⟩
  subst ct1
  by_cases cd1 : d1 = d2
  case neg =>
    have cd1b := ne_b cd1
    have HF : Hid (decide ((⟨t1, o1, f1, p1, d1, z1⟩ : Rd) = ⟨t1, o2, f2, p2, d2, z2⟩) = false) := Lib.hid (decide_eq_false (fun e => by cases e; exact cd1 rfl))
    go_enter Tryz.func39, Tryz.ntmps39
    go_upto_region 1 with fail
    rw [HW0.out]
    go_wp2_with fail
    go_ret
    exact ⟨by rw [HF.out]; rfl, BB.out⟩
  subst cd1
  by_cases cz : z1 = z2
  case neg =>
    have czb : (z1 == z2) = false := beq_eq_false_iff_ne.2 cz
    have HF : Hid (decide ((⟨t1, o1, f1, p1, d1, z1⟩ : Rd) = ⟨t1, o2, f2, p2, d1, z2⟩) = false) := Lib.hid (decide_eq_false (fun e => by cases e; exact cz rfl))
    go_enter Tryz.func39, Tryz.ntmps39
    go_upto_region 1 with fail
    rw [HW0.out]
    go_wp2_with fail
    go_ret
    exact ⟨by rw [HF.out]; rfl, BB.out⟩
  subst cz
  by_cases cl0 : o1.length = o2.length
  case neg =>
    have cl0i : ¬ ((o1.length : Int) = (o2.length : Int)) := by omega
    have cl0b := ne_b cl0i
    have cl0n : ((o1.length : Int) != (o2.length : Int)) = true := by simp [bne, cl0b]
    have HF : Hid (decide ((⟨t1, o1, f1, p1, d1, z1⟩ : Rd) = ⟨t1, o2, f2, p2, d1, z1⟩) = false) := Lib.hid (decide_eq_false (fun e => by cases e; exact cl0 rfl))
    go_enter Tryz.func39, Tryz.ntmps39
    go_upto_region 1 with fail
    rw [HW0.out]
    go_wp2_with fail
    go_ret
    exact ⟨by rw [HF.out]; rfl, BB.out⟩
  have cl0b : ((o1.length : Int) == (o2.length : Int)) = true := beq_iff_eq.2 (by omega)
  have cl0n : ((o1.length : Int) != (o2.length : Int)) = false := by simp only [bne, cl0b, Bool.not_true]
  have CL0 := Lib.hid cl0
  clear cl0
  by_cases cl1 : f1.length = f2.length
  case neg =>
    have cl1i : ¬ ((f1.length : Int) = (f2.length : Int)) := by omega
    have cl1b := ne_b cl1i
    have cl1n : ((f1.length : Int) != (f2.length : Int)) = true := by simp [bne, cl1b]
    have HF : Hid (decide ((⟨t1, o1, f1, p1, d1, z1⟩ : Rd) = ⟨t1, o2, f2, p2, d1, z1⟩) = false) := Lib.hid (decide_eq_false (fun e => by cases e; exact cl1 rfl))
    go_enter Tryz.func39, Tryz.ntmps39
    go_upto_region 1 with fail
    rw [HW0.out]
    go_wp2_with fail
    go_ret
    exact ⟨by rw [HF.out]; rfl, BB.out⟩
  have cl1b : ((f1.length : Int) == (f2.length : Int)) = true := beq_iff_eq.2 (by omega)
  have cl1n : ((f1.length : Int) != (f2.length : Int)) = false := by simp only [bne, cl1b, Bool.not_true]
  have CL1 := Lib.hid cl1
  clear cl1
  by_cases cl2 : p1.length = p2.length
  case neg =>
    have cl2i : ¬ ((p1.length : Int) = (p2.length : Int)) := by omega
    have cl2b := ne_b cl2i
    have cl2n : ((p1.length : Int) != (p2.length : Int)) = true := by simp [bne, cl2b]
    have HF : Hid (decide ((⟨t1, o1, f1, p1, d1, z1⟩ : Rd) = ⟨t1, o2, f2, p2, d1, z1⟩) = false) := Lib.hid (decide_eq_false (fun e => by cases e; exact cl2 rfl))
    go_enter Tryz.func39, Tryz.ntmps39
    go_upto_region 1 with fail
    rw [HW0.out]
    go_wp2_with fail
    go_ret
    exact ⟨by rw [HF.out]; rfl, BB.out⟩
  have cl2b : ((p1.length : Int) == (p2.length : Int)) = true := beq_iff_eq.2 (by omega)
  have cl2n : ((p1.length : Int) != (p2.length : Int)) = false := by simp only [bne, cl2b, Bool.not_true]
  have CL2 := Lib.hid cl2
  clear cl2
  obtain ⟨V, hV⟩ : ∃ V, decide ((⟨t1, o1, f1, p1, d1, z1⟩ : Rd) = ⟨t1, o2, f2, p2, d1, z1⟩) = V := ⟨_, rfl⟩
  rw [hV]
  have HO : Hid (¬ o1 = o2 → V = false) := Lib.hid fun c => by rw [← hV]; exact decide_eq_false (fun e => by cases e; exact c rfl)
  have HF : Hid (¬ f1 = f2 → V = false) := Lib.hid fun c => by rw [← hV]; exact decide_eq_false (fun e => by cases e; exact c rfl)
  have HP : Hid (¬ p1 = p2 → V = false) := Lib.hid fun c => by rw [← hV]; exact decide_eq_false (fun e => by cases e; exact c rfl)
  have HT : Hid (o1 = o2 → f1 = f2 → p1 = p2 → V = true) := Lib.hid fun c1 c2 c3 => by rw [← hV]; subst c1 c2 c3; exact decide_eq_true rfl
  clear hV
  go_enter Tryz.func39, Tryz.ntmps39
  go_upto_region 1 with fail
  rw [HW0.out]
  go_wp2_with fail
  go_loopw [5] (fun iv wx => ∃ k : Nat, iv = .int .i64 k ∧ k ≤ o1.length ∧ Hid (o1.take k = o2.take k) ∧ Below w0.heap.size w0 wx) (fun iv _ => o1.length - (intOf iv).toNat)
  case atStart => exact ⟨0, rfl, Nat.zero_le _, Lib.hid rfl, Below.refl _ _⟩
  case round =>
    obtain ⟨k, rfl, hk, hE, hbw⟩ := hrel
    clear da db hr
    have e0 : (0 : Int) ≤ (k : Int) := by omega
    have da := (KA.out.later hbw).at6
    have db := (KB.out.later hbw).at6
    have hr := Below.refl wr.heap.size wr
    by_cases hlt : k < o1.length
    · have e1 : (k : Int) < (o1.length : Int) := by omega
      have hl2 : k < o2.length := by have := CL0.out; omega
      have e2 : (k : Int) < (o2.length : Int) := by omega
      obtain ⟨g, off, rfl, q0⟩ := A1.out k hlt
      obtain ⟨g2, off2, rfl, q1⟩ := B1.out k hl2
      have q2 := fun w' (hw : Below wr.heap.size wr w') => q0 w' (hbw.up hw)
      have q3 := fun w' (hw : Below wr.heap.size wr w') => q1 w' (hbw.up hw)
      have HN : Hid (¬ o1[k] = o2[k] → V = false) := Lib.hid fun c => HO.out (lst_ne hlt hl2 c)
      have HY : Hid (o1[k] = o2[k] → o1.take (k + 1) = o2.take (k + 1)) := Lib.hid fun e => lst_next hlt hl2 hE.out e
      generalize o1[k] = x at *
      generalize o2[k] = y at *
      clear q0 q1 hE
      by_cases c_x : x = y
      case neg =>
        have c_x_b : (x == y) = false := beq_eq_false_iff_ne.2 c_x
        have HV := Lib.hid (HN.out (fun e => c_x (by first | exact e | (cases e; rfl))))
        go_upto_region 6 with fail
        refine wp_region_later wr.heap.size (by kernel_rfl) (by kernel_rfl) ?_
        have hu : ∀ u : Later wr.heap.size wr, Below wr.heap.size wr u.world := Later.below
        repeat (go_big_quiet_step ((fail)))
        refine wpQuiet_nil ?_
        intro w9 b9
        have hb9 := hbw.up b9
        clear hu hr q2 q3 da db
        go_wp2_with fail
        go_ret
        exact ⟨by rw [HV.out]; rfl, BB.out.up hb9⟩
      subst c_x
      have HA := Lib.hid (HY.out rfl)
      go_upto_region 6 with fail
      refine wp_region_later wr.heap.size (by kernel_rfl) (by kernel_rfl) ?_
      have hu : ∀ u : Later wr.heap.size wr, Below wr.heap.size wr u.world := Later.below
      repeat (go_big_quiet_step ((fail)))
      refine wpQuiet_nil ?_
      intro w9 b9
      have hb9 := hbw.up b9
      clear hu hr q2 q3 da db
      go_wp2_with fail
      go_roundw
      case rel => exact ⟨k + 1, by go_num, by omega, HA, hb9⟩
      case measure => simp [intOf]; omega
    · obtain rfl : k = o1.length := by omega
      have e1 : ¬ ((o1.length : Int) < (o1.length : Int)) := by omega
      have HE0 := Lib.hid (lst_all CL0.out hE.out)
      clear hE e0 hk hlt A1 B1
      go_wp2_with fail
      have hb1 := hbw
      clear hbw da db hr e1
      go_loopw [6] (fun iv wx => ∃ k : Nat, iv = .int .i64 k ∧ k ≤ f1.length ∧ Hid (f1.take k = f2.take k) ∧ Below w0.heap.size w0 wx) (fun iv _ => f1.length - (intOf iv).toNat)
      case atStart => exact ⟨0, rfl, Nat.zero_le _, Lib.hid rfl, hb1⟩
      case round =>
        obtain ⟨k, rfl, hk, hE, hbw⟩ := hrel
        clear hb1
        have e0 : (0 : Int) ≤ (k : Int) := by omega
        have da := (KA.out.later hbw).at6
        have db := (KB.out.later hbw).at6
        have hr := Below.refl wr.heap.size wr
        by_cases hlt : k < f1.length
        · have e1 : (k : Int) < (f1.length : Int) := by omega
          have hl2 : k < f2.length := by have := CL1.out; omega
          have e2 : (k : Int) < (f2.length : Int) := by omega
          obtain ⟨g, off, rfl, q0⟩ := A2.out k hlt
          obtain ⟨g2, off2, rfl, q1⟩ := B2.out k hl2
          have q2 := fun w' (hw : Below wr.heap.size wr w') => q0 w' (hbw.up hw)
          have q3 := fun w' (hw : Below wr.heap.size wr w') => q1 w' (hbw.up hw)
          have HN : Hid (¬ f1[k] = f2[k] → V = false) := Lib.hid fun c => HF.out (lst_ne hlt hl2 c)
          have HY : Hid (f1[k] = f2[k] → f1.take (k + 1) = f2.take (k + 1)) := Lib.hid fun e => lst_next hlt hl2 hE.out e
          generalize f1[k] = x at *
          generalize f2[k] = y at *
          clear q0 q1 hE
          obtain ⟨xi, xb, xe⟩ := x
          obtain ⟨yi, yb, ye⟩ := y
          simp only at q2 q3
          by_cases c_xi : xi = yi
          case neg =>
            have c_xi_b : (xi == yi) = false := beq_eq_false_iff_ne.2 c_xi
            have HV := Lib.hid (HN.out (fun e => c_xi (by first | exact e | (cases e; rfl))))
            go_upto_region 11 with fail
            refine wp_region_later wr.heap.size (by kernel_rfl) (by kernel_rfl) ?_
            have hu : ∀ u : Later wr.heap.size wr, Below wr.heap.size wr u.world := Later.below
            repeat (go_big_quiet_step ((fail)))
            refine wpQuiet_nil ?_
            intro w9 b9
            have hb9 := hbw.up b9
            clear hu hr q2 q3 da db
            go_wp2_with fail
            go_ret
            exact ⟨by rw [HV.out]; rfl, BB.out.up hb9⟩
          subst c_xi
          by_cases c_xb : xb = yb
          case neg =>
            have c_xb_c : decide (xb = yb) = false := decide_eq_false c_xb
            have c_xb_d : ¬ xb.data = yb.data := fun e => c_xb (ByteArray.ext e)
            have c_xb_e : (xb.data == yb.data) = false := beq_eq_false_iff_ne.2 c_xb_d
            have c_xb_b : (xb == yb) = false := c_xb_e
            have c_xb_l : (xb.data.toList == yb.data.toList) = false := beq_eq_false_iff_ne.2 (fun e => c_xb_d (Array.toList_inj.1 e))
            have c_xb_t : (xb.toList == yb.toList) = false := by rw [ByteArray.toList_eq, ByteArray.toList_eq]; exact c_xb_l
            have HV := Lib.hid (HN.out (fun e => c_xb (by first | exact e | (cases e; rfl))))
            go_upto_region 11 with fail
            refine wp_region_later wr.heap.size (by kernel_rfl) (by kernel_rfl) ?_
            have hu : ∀ u : Later wr.heap.size wr, Below wr.heap.size wr u.world := Later.below
            repeat (go_big_quiet_step ((fail)))
            refine wpQuiet_nil ?_
            intro w9 b9
            have hb9 := hbw.up b9
            clear hu hr q2 q3 da db
            go_wp2_with fail
            go_ret
            exact ⟨by rw [HV.out]; rfl, BB.out.up hb9⟩
          subst c_xb
          by_cases c_xe : xe = ye
          case neg =>
            have c_xe_b : (xe == ye) = false := beq_eq_false_iff_ne.2 c_xe
            have HV := Lib.hid (HN.out (fun e => c_xe (by first | exact e | (cases e; rfl))))
            go_upto_region 11 with fail
            refine wp_region_later wr.heap.size (by kernel_rfl) (by kernel_rfl) ?_
            have hu : ∀ u : Later wr.heap.size wr, Below wr.heap.size wr u.world := Later.below
            repeat (go_big_quiet_step ((fail)))
            refine wpQuiet_nil ?_
            intro w9 b9
            have hb9 := hbw.up b9
            clear hu hr q2 q3 da db
            go_wp2_with fail
            go_ret
            exact ⟨by rw [HV.out]; rfl, BB.out.up hb9⟩
          subst c_xe
          have HA := Lib.hid (HY.out rfl)
          go_upto_region 11 with fail
          refine wp_region_later wr.heap.size (by kernel_rfl) (by kernel_rfl) ?_
          have hu : ∀ u : Later wr.heap.size wr, Below wr.heap.size wr u.world := Later.below
          repeat (go_big_quiet_step ((fail)))
          refine wpQuiet_nil ?_
          intro w9 b9
          have hb9 := hbw.up b9
          clear hu hr q2 q3 da db
          go_wp2_with fail
          go_roundw
          case rel => exact ⟨k + 1, by go_num, by omega, HA, hb9⟩
          case measure => simp [intOf]; omega
        · obtain rfl : k = f1.length := by omega
          have e1 : ¬ ((f1.length : Int) < (f1.length : Int)) := by omega
          have HE1 := Lib.hid (lst_all CL1.out hE.out)
          clear hE e0 hk hlt A2 B2
          go_wp2_with fail
          have hb1 := hbw
          clear hbw da db hr e1
          go_loopw [7] (fun iv wx => ∃ k : Nat, iv = .int .i64 k ∧ k ≤ p1.length ∧ Hid (p1.take k = p2.take k) ∧ Below w0.heap.size w0 wx) (fun iv _ => p1.length - (intOf iv).toNat)
          case atStart => exact ⟨0, rfl, Nat.zero_le _, Lib.hid rfl, hb1⟩
          case round =>
            obtain ⟨k, rfl, hk, hE, hbw⟩ := hrel
            clear hb1
            have e0 : (0 : Int) ≤ (k : Int) := by omega
            have da := (KA.out.later hbw).at6
            have db := (KB.out.later hbw).at6
            have hr := Below.refl wr.heap.size wr
            by_cases hlt : k < p1.length
            · have e1 : (k : Int) < (p1.length : Int) := by omega
              have hl2 : k < p2.length := by have := CL2.out; omega
              have e2 : (k : Int) < (p2.length : Int) := by omega
              obtain ⟨g, off, rfl, q0⟩ := A3.out k hlt
              obtain ⟨g2, off2, rfl, q1⟩ := B3.out k hl2
              have q2 := fun w' (hw : Below wr.heap.size wr w') => q0 w' (hbw.up hw)
              have q3 := fun w' (hw : Below wr.heap.size wr w') => q1 w' (hbw.up hw)
              have HN : Hid (¬ p1[k] = p2[k] → V = false) := Lib.hid fun c => HP.out (lst_ne hlt hl2 c)
              have HY : Hid (p1[k] = p2[k] → p1.take (k + 1) = p2.take (k + 1)) := Lib.hid fun e => lst_next hlt hl2 hE.out e
              generalize p1[k] = x at *
              generalize p2[k] = y at *
              clear q0 q1 hE
              obtain ⟨xi, xr, xw, xa⟩ := x
              obtain ⟨yi, yr, yw, ya⟩ := y
              simp only at q2 q3
              by_cases c_xi : xi = yi
              case neg =>
                have c_xi_b : (xi == yi) = false := beq_eq_false_iff_ne.2 c_xi
                have HV := Lib.hid (HN.out (fun e => c_xi (by first | exact e | (cases e; rfl))))
                go_upto_region 16 with fail
                refine wp_region_later wr.heap.size (by kernel_rfl) (by kernel_rfl) ?_
                have hu : ∀ u : Later wr.heap.size wr, Below wr.heap.size wr u.world := Later.below
                repeat (go_big_quiet_step ((fail)))
                refine wpQuiet_nil ?_
                intro w9 b9
                have hb9 := hbw.up b9
                clear hu hr q2 q3 da db
                go_wp2_with fail
                go_ret
                exact ⟨by rw [HV.out]; rfl, BB.out.up hb9⟩
              subst c_xi
              by_cases c_xr : xr = yr
              case neg =>
                have c_xr_b : (xr == yr) = false := beq_eq_false_iff_ne.2 c_xr
                have HV := Lib.hid (HN.out (fun e => c_xr (by first | exact e | (cases e; rfl))))
                go_upto_region 16 with fail
                refine wp_region_later wr.heap.size (by kernel_rfl) (by kernel_rfl) ?_
                have hu : ∀ u : Later wr.heap.size wr, Below wr.heap.size wr u.world := Later.below
                repeat (go_big_quiet_step ((fail)))
                refine wpQuiet_nil ?_
                intro w9 b9
                have hb9 := hbw.up b9
                clear hu hr q2 q3 da db
                go_wp2_with fail
                go_ret
                exact ⟨by rw [HV.out]; rfl, BB.out.up hb9⟩
              subst c_xr
              by_cases c_xw : xw = yw
              case neg =>
                have c_xw_b : (xw == yw) = false := beq_eq_false_iff_ne.2 c_xw
                have HV := Lib.hid (HN.out (fun e => c_xw (by first | exact e | (cases e; rfl))))
                go_upto_region 16 with fail
                refine wp_region_later wr.heap.size (by kernel_rfl) (by kernel_rfl) ?_
                have hu : ∀ u : Later wr.heap.size wr, Below wr.heap.size wr u.world := Later.below
                repeat (go_big_quiet_step ((fail)))
                refine wpQuiet_nil ?_
                intro w9 b9
                have hb9 := hbw.up b9
                clear hu hr q2 q3 da db
                go_wp2_with fail
                go_ret
                exact ⟨by rw [HV.out]; rfl, BB.out.up hb9⟩
              subst c_xw
              by_cases c_xa : xa = ya
              case neg =>
                have c_xa_b : (xa == ya) = false := beq_eq_false_iff_ne.2 c_xa
                have HV := Lib.hid (HN.out (fun e => c_xa (by first | exact e | (cases e; rfl))))
                go_upto_region 16 with fail
                refine wp_region_later wr.heap.size (by kernel_rfl) (by kernel_rfl) ?_
                have hu : ∀ u : Later wr.heap.size wr, Below wr.heap.size wr u.world := Later.below
                repeat (go_big_quiet_step ((fail)))
                refine wpQuiet_nil ?_
                intro w9 b9
                have hb9 := hbw.up b9
                clear hu hr q2 q3 da db
                go_wp2_with fail
                go_ret
                exact ⟨by rw [HV.out]; rfl, BB.out.up hb9⟩
              subst c_xa
              have HA := Lib.hid (HY.out rfl)
              go_upto_region 16 with fail
              refine wp_region_later wr.heap.size (by kernel_rfl) (by kernel_rfl) ?_
              have hu : ∀ u : Later wr.heap.size wr, Below wr.heap.size wr u.world := Later.below
              repeat (go_big_quiet_step ((fail)))
              refine wpQuiet_nil ?_
              intro w9 b9
              have hb9 := hbw.up b9
              clear hu hr q2 q3 da db
              go_wp2_with fail
              go_roundw
              case rel => exact ⟨k + 1, by go_num, by omega, HA, hb9⟩
              case measure => simp [intOf]; omega
            · obtain rfl : k = p1.length := by omega
              have e1 : ¬ ((p1.length : Int) < (p1.length : Int)) := by omega
              have HE2 := Lib.hid (lst_all CL2.out hE.out)
              clear hE e0 hk hlt A3 B3
              have HV := Lib.hid (HT.out HE0.out HE1.out HE2.out)
              go_wp2_with fail
              go_ret
              exact ⟨by rw [HV.out]; rfl, BB.out.up hbw⟩
end Go.Proofs.YtmnkekepccdlcaaGreatDoor
