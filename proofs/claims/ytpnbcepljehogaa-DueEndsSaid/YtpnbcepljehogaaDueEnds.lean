/-
  The walk of DueEnds: it returns true, whatever the input; it makes new memory alone.
  Conditions: the numbers are of their Go kinds.
-/
import Derived.Test.YtpnbcepljehogaaDueLaws
import Derived.RegionTactic
import Derived.BigRegion
namespace Go.Proofs.Ytpnbcepljehogaa
open Go.RowKit

set_option maxHeartbeats 4000000 in
theorem xOver (x l c n : Int) (w : World) : Calls Try.prog 17 #[.agg #[.int .i64 x, .int .i64 l, .int .i64 c], .int .i64 n] w
    fun e w' => e = .returned (.int .i64 (overN l c n)) ∧ Below w.heap.size w w' := by
  obtain ⟨w0, hw0⟩ : ∃ w0, w0 = w.alloc (.cells #[.int .i64 x, .int .i64 l, .int .i64 c] 26) := ⟨_, rfl⟩
  have hk : Blk w0 w.heap.size 26 #[.int .i64 x, .int .i64 l, .int .i64 c] := by rw [hw0]; exact Blk.new _ _ _
  have hz : Below w.heap.size w w0 := by rw [hw0]; exact (Below.refl _ _).alloc (Nat.le_refl _) _
  have HW0 := Lib.hid hw0
  clear hw0
  have d0 := hk.at3
  have hu : ∀ u : Later w0.heap.size w0, Below w0.heap.size w0 u.world := Later.below
  cases hl : dueB l n <;> cases hc : dueB c n <;> by_cases h : ownT l ≤ ownT c
  all_goals
    go_enter Try.func17, Try.ntmps17
    go_upto_region 1 with fail
    rw [← HW0.out]
    refine wp_region_later w0.heap.size (by kernel_rfl) (by kernel_rfl) ?_
    repeat (go_big_quiet_step ((go_at_call 18; first | with_reducible exact later_same (rDueV hl _) | with_reducible exact later_same (rDueV hc _))))
    refine wpQuiet_nil ?_
    intro w1 hb1
    go_wp2_with fail
    have hu1 : ∀ u : Later w1.heap.size w1, Below w0.heap.size w0 u.world := fun u => hb1.up u.below
    refine wp_region_later w1.heap.size (by kernel_rfl) (by kernel_rfl) ?_
    repeat (go_big_quiet_step ((go_at_call 80; exact later_same (rOwn _ _))))
    refine wpQuiet_nil ?_
    intro w2 hb2'
    have hb2 := hb1.up hb2'
    clear hu1 hb2' hb1
    go_wp2_with fail
    first
    | (go_ret
       exact ⟨ret_int (by unfold overN; rw [hl, hc]; first | (simp; done) | (simp; omega)), hz.up hb2⟩)
    | (have hu2 : ∀ u : Later w2.heap.size w2, Below w0.heap.size w0 u.world := fun u => hb2.up u.below
       refine wp_region_later w2.heap.size (by kernel_rfl) (by kernel_rfl) ?_
       repeat (go_big_quiet_step ((go_at_call 80; exact later_same (rOwn _ _))))
       refine wpQuiet_nil ?_
       intro w3 hb3'
       have hb3 := hb2.up hb3'
       clear hu2 hb3' hb2
       go_wp2_with fail
       go_ret
       exact ⟨ret_int (by unfold overN; rw [hl, hc]; first | (simp; done) | (simp; omega)), hz.up hb3⟩)

theorem least3 (u l c : Int) : leastT [u, l, c] = (let a := if ownT u < nev then ownT u else nev; let b := if ownT l < a then ownT l else a; if ownT c < b then ownT c else b) := rfl
theorem least_due {u l c n : Int} (hu : i64 u) (hl : i64 l) (hc : i64 c) : dueB (leastT [u, l, c]) n = (decide (0 < overN l c n) || dueB u n) := by
  rw [least3]
  have h1 := ownT_le hu
  have h2 := ownT_le hl
  have h3 := ownT_le hc
  have e1 : ∀ t, ownT t = nev ↔ t = nev := fun t => by unfold ownT nev; omega
  rw [Bool.eq_iff_iff]
  simp only [Bool.or_eq_true, decide_eq_true_eq]
  have ho : 0 < overN l c n ↔ (ownT l ≤ ownT c ∧ dueB l n = true) ∨ (ownT c < ownT l ∧ dueB c n = true) := by
    unfold overN
    by_cases h : ownT l ≤ ownT c
    · rw [if_pos h]
      cases dueB l n <;> simp [h]; omega
    · rw [if_neg h]
      cases dueB c n <;> simp [h]; omega
  rw [ho]
  unfold dueB
  simp only [decide_eq_true_eq]
  have hn : ∀ t : Int, t ≠ nev ↔ ownT t ≠ nev := fun t => by rw [ne_eq, ne_eq, e1]
  rw [hn u, hn l, hn c]
  have hx : ∀ t : Int, 0 ≤ t → ownT t = t := fun t ht => by unfold ownT; omega
  generalize ownT u = a at *
  generalize ownT l = b at *
  generalize ownT c = d at *
  generalize ownT n = m at *
  unfold nev at *
  split <;> split <;> split <;> (rw [hx _ (by omega)]; omega)
theorem over_keeps {l c n n' : Int} (h : 0 < overN l c n) (hn : ownT n ≤ ownT n') : overN l c n' = overN l c n := by
  unfold overN at *
  unfold dueB at *
  split at h
  · rename_i hlc
    rw [if_pos hlc, if_pos hlc]
    split at h
    · rename_i hd
      rw [if_pos hd, if_pos (by simp only [decide_eq_true_eq] at hd ⊢; omega)]
    · omega
  · rename_i hlc
    rw [if_neg hlc, if_neg hlc]
    split at h
    · rename_i hd
      rw [if_pos hd, if_pos (by simp only [decide_eq_true_eq] at hd ⊢; omega)]
    · omega
theorem own_add {n d : Int} (hn : i64 n) (hd : i64 d) : ownT n ≤ ownT (addT n d) := by
  have h1 := ownT_le hn
  have h2 := ownT_le hd
  have hx : ∀ t : Int, 0 ≤ t → ownT t = t := fun t ht => by unfold ownT; omega
  unfold addT
  split
  · rw [hx nev (by unfold nev; omega)]; unfold nev; omega
  · rw [hx (ownT n + ownT d) (by omega)]; omega
theorem over_bd (l c n : Int) : overN l c n = 0 ∨ overN l c n = 3 ∨ overN l c n = 5 := by
  unfold overN; split <;> split <;> simp

theorem two_new (w : World) (o : Obj) (x l c : Int) :
    Two (w.alloc o) (w.heap.size + 1) (w.heap.size + 1 + 1) x l c x l c ((((w.alloc o).alloc (.cells #[.int .i64 x, .int .i64 l, .int .i64 c] 25)).alloc (.cells #[.int .i64 x, .int .i64 l, .int .i64 c] 26)).drew) := by
  have k3 := Blk.new (w.alloc o) 25 #[.int .i64 x, .int .i64 l, .int .i64 c]
  have k4 := Blk.new ((w.alloc o).alloc (.cells #[.int .i64 x, .int .i64 l, .int .i64 c] 25)) 26 #[.int .i64 x, .int .i64 l, .int .i64 c]
  simp only [World.size_alloc] at k3 k4
  exact ⟨by omega, by simp, by simp <;> omega, (k3.alloc _).drew, k4.drew, (((Below.refl _ _).alloc (Nat.le_refl _) _).alloc (by simp) _).drew⟩
theorem two_new' (w : World) (o : Obj) (x l c : Int) :
    Two (w.alloc o) (w.heap.size + 1 + 1) (w.heap.size + 1) x l c x l c ((((w.alloc o).alloc (.cells #[.int .i64 x, .int .i64 l, .int .i64 c] 26)).alloc (.cells #[.int .i64 x, .int .i64 l, .int .i64 c] 25)).drew) := by
  have k3 := Blk.new (w.alloc o) 26 #[.int .i64 x, .int .i64 l, .int .i64 c]
  have k4 := Blk.new ((w.alloc o).alloc (.cells #[.int .i64 x, .int .i64 l, .int .i64 c] 26)) 25 #[.int .i64 x, .int .i64 l, .int .i64 c]
  simp only [World.size_alloc] at k3 k4
  exact ⟨by omega, by simp <;> omega, by simp, k4.drew, (k3.alloc _).drew, (((Below.refl _ _).alloc (Nat.le_refl _) _).alloc (by simp) _).drew⟩

set_option maxHeartbeats 4000000 in
set_option maxRecDepth 100000 in
theorem dueEnds_walk (u l f la n a o : Int) (ov wk : Bool) (hu : i64 u) (hl : i64 l) (hn : i64 n) (ha : i64 a) (ho : i64 o)
    (hov : decide (0 < overN l a o) = ov) (hwk : dueB u o = wk) (w : World) :
    Calls Try.prog 3 #[.int .i64 u, .int .i64 l, .agg #[.int .i64 f, .int .i64 la, .int .i64 n, .int .i64 a, .int .i64 o]] w fun e w' => e = .returned (.bool true) ∧ Below w.heap.size w w' := by
  have za : Makes Try.prog (fun _ => #[.int .i64 0, .int .i64 0, .int .i64 0]) 25 := fun _ => by kernel_rfl
  have zb : Makes Try.prog (fun _ => #[.int .i64 0, .int .i64 0, .int .i64 0]) 26 := fun _ => by kernel_rfl
  have hL : dueB (leastT [u, l, a]) o = (ov || wk) := by rw [least_due hu hl ha, hov, hwk]
  have HK : ov = true → overN l a (addT o n) = overN l a o := fun h => over_keeps (by rw [h] at hov; simpa using hov) (own_add ho hn)
  have HK := Lib.hid HK
  obtain ⟨w0, hw0⟩ : ∃ w0, w0 = w.alloc (.cells #[.int .i64 f, .int .i64 la, .int .i64 n, .int .i64 a, .int .i64 o] 23) := ⟨_, rfl⟩
  have hk : Blk w0 w.heap.size 23 #[.int .i64 f, .int .i64 la, .int .i64 n, .int .i64 a, .int .i64 o] := by rw [hw0]; exact Blk.new _ _ _
  have hz : Below w.heap.size w w0 := by rw [hw0]; exact (Below.refl _ _).alloc (Nat.le_refl _) _
  have HW0 := Lib.hid hw0
  clear hw0
  have c0 := hk.at5
  go_enter Try.func3, Try.ntmps3
  go_upto_region 1 with fail
  go_cut [7, 8] (fun s3 s4 wx => ∃ b3 b4 : Nat, s3 = .pointer (some ⟨b3, 0, none⟩) ∧ s4 = .pointer (some ⟨b4, 0, none⟩) ∧ Two w0 b3 b4 u l a u l a wx)
  case first =>
    clear za zb c0 hk hL hov hwk
    go_region
    · go_wp2_with fail
      go_meet
      exact ⟨_, _, rfl, rfl, by rw [HW0.out]; exact two_new _ _ _ _ _⟩
    · go_wp2_with fail
      go_meet
      exact ⟨_, _, rfl, rfl, by rw [HW0.out]; exact two_new' _ _ _ _ _⟩
  case rest =>
    obtain ⟨b3, b4, rfl, rfl, ht⟩ := hcut
    have c0 := (hk.later ht.below).at5
    have hr := Below.refl wc.heap.size wc
    have d3 := ht.k3.at3
    have d4 := ht.k4.at3
    clear za zb
    cases ov <;> cases wk
    all_goals
      go_wp2_with fail
      refine (dOver _ _ _ _ _).mono ?_; rintro e w1 ⟨rfl, hb1⟩
      go_wp2_with fail
      refine (dWoken _ _ _ _ _).mono ?_; rintro e w2 ⟨rfl, hb2'⟩
      have hb2 := hb1.up hb2'
      clear hb1 hb2'
      go_wp2_with fail
      have hu2 : ∀ u : Later w2.heap.size w2, Below wc.heap.size wc u.world := fun u => hb2.up u.below
      refine wp_region_later w2.heap.size (by kernel_rfl) (by kernel_rfl) ?_
      repeat (go_big_quiet_step ((first | (go_at_call 17; exact later_below (Nat.le_refl _) (xOver _ _ _ _ _)) | (go_at_call 19; exact later_below (Nat.le_refl _) (dFirst _ _ _ _)) | (go_at_call 20; exact later_below (Nat.le_refl _) (xFirst _ _ _ _)) | (go_at_call 18; first | with_reducible exact later_same (rDueV hwk _) | with_reducible exact later_same (rDueV hL _)))))
      refine wpQuiet_nil ?_
      intro w3 hb3'
      have hb3 := hb2.up hb3'
      clear hu2 hb3' hb2
      go_wp2_with fail
      have hu3 : ∀ u : Later w3.heap.size w3, Below wc.heap.size wc u.world := fun u => hb3.up u.below
      refine wp_region_later w3.heap.size (by kernel_rfl) (by kernel_rfl) ?_
      repeat (go_big_quiet_step ((first | (go_at_call 21; exact later_same (rAdd _ _ _ ho hn)) | (go_at_call 15; exact later_below (Nat.le_refl _) (dOver _ _ _ _ _)))))
      refine wpQuiet_nil ?_
      intro w4 hb4'
      have hb4 := hb3.up hb4'
      clear hu3 hb4' hb3 c0 d3 d4
      first
      | have HE := HK.out rfl
      | skip
      go_wp2_with fail
      refine (dLives _).mono ?_; rintro e w5 ⟨rfl, hb5⟩
      go_wp2_with fail
      go_ret
      exact ⟨rfl, (((hz.up ht.below).up hb4).up hb5)⟩
end Go.Proofs.Ytpnbcepljehogaa
