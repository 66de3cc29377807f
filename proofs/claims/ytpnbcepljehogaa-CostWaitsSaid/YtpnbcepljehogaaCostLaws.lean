/-
  The walks of CostPrices, CostWaits and CostRises: each returns true, whatever the input; they make new memory alone.
  Conditions: the numbers are of their Go kinds.
-/
import Derived.Test.YtpnbcepljehogaaCost3
import Derived.Test.YtpnbcepljehogaaCalm
namespace Go.Proofs.Ytpnbcepljehogaa
open Go.RowKit

set_option maxHeartbeats 1000000 in
theorem sLives (w : World) : Calls Try.prog 61 #[] w fun e w' => e = .returned (.bool true) ∧ Below w.heap.size w w' := by
  have f1 : goodB 5 8 10 4 3 1 = true := by decide
  have f2 : mostS 5 8 10 4 3 1 = 11 := by decide
  have f3 : turnsS 5 8 10 4 3 1 = 4 := by decide
  have f4 : waitS 5 8 10 4 3 1 = 20 := by decide
  have f5 : untilS 5 8 10 4 3 1 100 2 = 142 := by decide
  have f6 : priceS 5 8 10 4 3 1 2 2 3 = 6 := by decide
  have i1 : i64 100 := by unfold i64; omega
  have i2 : i64 2 := by unfold i64; omega
  have h1 := fun W => cGood 5 8 10 4 3 1 W
  have h2 := fun W => cMost 5 8 10 4 3 1 W
  have h3 := fun W => cTurns 5 8 10 4 3 1 W
  have h4 := fun W => cWait 5 8 10 4 3 1 W
  have h5 := fun W => cUntil 5 8 10 4 3 1 100 2 W i1 i2
  have h6 := fun W => cPrice 5 8 10 4 3 1 2 2 3 W
  rw [f1] at h1
  rw [f2] at h2
  rw [f3] at h3
  rw [f4] at h4
  rw [f5] at h5
  rw [f6] at h6
  have H1 := Lib.hid h1
  have H2 := Lib.hid h2
  have H3 := Lib.hid h3
  have H4 := Lib.hid h4
  have H5 := Lib.hid h5
  have H6 := Lib.hid h6
  clear h1 h2 h3 h4 h5 h6 f1 f2 f3 f4 f5 f6 i1 i2
  go_enter Try.func61, Try.ntmps61
  go_upto_region 1 with fail
  go_cut [1] (fun s1 wx => ∃ b : Nat, s1 = .pointer (some ⟨b, 0, none⟩) ∧ Blk wx b 73 #[.int .i64 5, .int .i64 8, .int .i64 10, .int .i64 4, .int .i64 3, .int .i64 1] ∧ Below w.heap.size w wx)
  case first =>
    go_wp2_with fail
    go_meet
    exact ⟨_, rfl, Blk.new _ _ _, (Below.refl _ _).alloc (Nat.le_refl _) _⟩
  case rest =>
    obtain ⟨b, rfl, hk, hz⟩ := hcut
    have d0 := hk.at6
    have hr := Below.refl wc.heap.size wc
    clear hk
    go_wp2_with fail
    refine (H1.out _).mono ?_; rintro e w1 ⟨rfl, b1⟩
    go_wp2_with fail
    refine (H2.out _).mono ?_; rintro e w2 ⟨rfl, b2'⟩
    have b2 := b1.up b2'
    clear b1 b2'
    go_wp2_with fail
    refine (H3.out _).mono ?_; rintro e w3 ⟨rfl, b3'⟩
    have b3 := b2.up b3'
    clear b2 b3'
    go_wp2_with fail
    refine (H4.out _).mono ?_; rintro e w4 ⟨rfl, b4'⟩
    have b4 := b3.up b4'
    clear b3 b4'
    go_wp2_with fail
    refine (H5.out _).mono ?_; rintro e w5 ⟨rfl, b5'⟩
    have b5 := b4.up b5'
    clear b4 b5'
    go_wp2_with fail
    refine (H6.out _).mono ?_; rintro e w6 ⟨rfl, b6'⟩
    have b6 := b5.up b6'
    clear b5 b6'
    go_wp2_with fail
    go_ret
    exact ⟨rfl, hz.up b6⟩

/-! The plain laws. -/
theorem price_most {l r n o q v kind fresh waits : Int} : priceS l r n o q v kind fresh waits ≤ mostS l r n o q v := by
  unfold priceS mostS
  cases hg : goodB l r n o q v
  · simp
  · have hb := good_bd hg
    rw [if_pos rfl, if_pos rfl]
    have f3 := clampT_bd (x := waits) (m := o) (by omega)
    split
    · omega
    · split <;> omega
theorem price_good {l r n o q v kind fresh waits : Int} : decide (0 < priceS l r n o q v kind fresh waits) = goodB l r n o q v := by
  unfold priceS
  cases hg : goodB l r n o q v
  · simp
  · have hb := good_bd hg
    rw [if_pos rfl]
    have f1 := clampT_bd (x := fresh) (m := n) (by omega)
    have f2 := clampT_bd (x := waits) (m := n) (by omega)
    have f3 := clampT_bd (x := waits) (m := o) (by omega)
    rw [decide_eq_true_eq]
    split
    · omega
    · split <;> omega
theorem price_rises {l r n o q v kind f1 w1 f2 w2 : Int} (hf : f1 ≤ f2) (hw : w1 ≤ w2) : priceS l r n o q v kind f1 w1 ≤ priceS l r n o q v kind f2 w2 := by
  unfold priceS
  cases hg : goodB l r n o q v
  · simp
  · rw [if_pos rfl, if_pos rfl]
    have hb := good_bd hg
    unfold clampT
    split
    · omega
    · split <;> omega

set_option maxHeartbeats 2000000 in
set_option maxRecDepth 100000 in
theorem costPrices (l r n o q v kind fresh waits : Int) (w : World) :
    Calls Try.prog 9 #[.agg #[.int .i64 l, .int .i64 r, .int .i64 n, .int .i64 o, .int .i64 q, .int .i64 v], .agg #[.int .i64 kind, .int .i64 fresh, .int .i64 waits]] w fun e w' => e = .returned (.bool true) ∧ Below w.heap.size w w' := by
  have p1 := price_most (l := l) (r := r) (n := n) (o := o) (q := q) (v := v) (kind := kind) (fresh := fresh) (waits := waits)
  have p2 := price_good (l := l) (r := r) (n := n) (o := o) (q := q) (v := v) (kind := kind) (fresh := fresh) (waits := waits)
  have h1 := fun W => cPrice l r n o q v kind fresh waits W
  have h2 := fun W => rPrice l r n o q v kind fresh waits W
  have h3 := fun W => cMost l r n o q v W
  have h4 := fun W => rMost l r n o q v W
  have h5 := fun W => cGood l r n o q v W
  have h6 := fun W => rGood l r n o q v W
  generalize priceS l r n o q v kind fresh waits = pr at *
  generalize mostS l r n o q v = mo at *
  generalize goodB l r n o q v = go_ at *
  have H1 := Lib.hid h1
  have H2 := Lib.hid h2
  have H3 := Lib.hid h3
  have H4 := Lib.hid h4
  have H5 := Lib.hid h5
  have H6 := Lib.hid h6
  clear h1 h2 h3 h4 h5 h6
  obtain ⟨w0, hw0⟩ : ∃ w0, w0 = w.alloc (.cells #[.int .i64 l, .int .i64 r, .int .i64 n, .int .i64 o, .int .i64 q, .int .i64 v] 73) := ⟨_, rfl⟩
  obtain ⟨wb, hwb⟩ : ∃ wb, wb = w0.alloc (.cells #[.int .i64 kind, .int .i64 fresh, .int .i64 waits] 75) := ⟨_, rfl⟩
  have hk : Blk wb w.heap.size 73 #[.int .i64 l, .int .i64 r, .int .i64 n, .int .i64 o, .int .i64 q, .int .i64 v] := by rw [hwb, hw0]; exact (Blk.new _ _ _).alloc _
  have hk2 : Blk wb (w.heap.size + 1) 75 #[.int .i64 kind, .int .i64 fresh, .int .i64 waits] := by
    rw [hwb, hw0]
    have := Blk.new (w.alloc (.cells #[.int .i64 l, .int .i64 r, .int .i64 n, .int .i64 o, .int .i64 q, .int .i64 v] 73)) 75 #[.int .i64 kind, .int .i64 fresh, .int .i64 waits]
    simpa using this
  have hz : Below w.heap.size w wb := by rw [hwb, hw0]; exact ((Below.refl _ _).alloc (Nat.le_refl _) _).alloc (by simp) _
  have HW : Hid (wb = (w.alloc (.cells #[.int .i64 l, .int .i64 r, .int .i64 n, .int .i64 o, .int .i64 q, .int .i64 v] 73)).alloc (.cells #[.int .i64 kind, .int .i64 fresh, .int .i64 waits] 75)) := by rw [← hw0]; exact hwb
  clear hw0 hwb
  have d0 := hk.at6
  have d1 := hk2.at3
  have hr := Below.refl wb.heap.size wb
  go_enter Try.func9, Try.ntmps9
  go_upto_region 1 with fail
  rw [← HW.out]
  go_wp2_with fail
  refine (H1.out _).mono ?_; rintro e w1 ⟨rfl, b1⟩
  go_wp2_with fail
  have hu : ∀ u : Later w1.heap.size w1, Below wb.heap.size wb u.world := fun u => b1.up u.below
  refine wp_region_later w1.heap.size (by kernel_rfl) (by kernel_rfl) ?_
  repeat (go_big_quiet_step ((first | (go_at_call 56; exact later_below (Nat.le_refl _) (H5.out _)) | (go_at_call 57; exact later_below (Nat.le_refl _) (H6.out _)) | (go_at_call 58; exact later_below (Nat.le_refl _) (H2.out _)) | (go_at_call 59; exact later_below (Nat.le_refl _) (H3.out _)) | (go_at_call 60; exact later_below (Nat.le_refl _) (H4.out _)) | (go_at_call 61; exact later_below (Nat.le_refl _) (sLives _)))))
  refine wpQuiet_nil ?_
  intro w2 b2'
  have b2 := b1.up b2'
  clear hu b2' b1
  go_wp2_with fail
  go_ret
  exact ⟨rfl, hz.up b2⟩

theorem three_new (w : World) (c0 : Array Value) (x y z p q r : Value) :
    Blk (((w.alloc (.cells c0 73)).alloc (.cells #[x, y, z] 75)).alloc (.cells #[p, q, r] 75)) w.heap.size 73 c0 ∧
    Blk (((w.alloc (.cells c0 73)).alloc (.cells #[x, y, z] 75)).alloc (.cells #[p, q, r] 75)) (w.heap.size + 1) 75 #[x, y, z] ∧
    Blk (((w.alloc (.cells c0 73)).alloc (.cells #[x, y, z] 75)).alloc (.cells #[p, q, r] 75)) (w.heap.size + 1 + 1) 75 #[p, q, r] ∧
    Below w.heap.size w (((w.alloc (.cells c0 73)).alloc (.cells #[x, y, z] 75)).alloc (.cells #[p, q, r] 75)) := by
  have k1 := Blk.new (w.alloc (.cells c0 73)) 75 #[x, y, z]
  have k2 := Blk.new ((w.alloc (.cells c0 73)).alloc (.cells #[x, y, z] 75)) 75 #[p, q, r]
  simp only [World.size_alloc] at k1 k2
  exact ⟨((Blk.new _ _ _).alloc _).alloc _, k1.alloc _, k2, (((Below.refl _ _).alloc (Nat.le_refl _) _).alloc (by simp) _).alloc (by simp <;> omega) _⟩

set_option maxHeartbeats 2000000 in
set_option maxRecDepth 100000 in
theorem costRises (l r n o q v k1 f1 w1 k2 f2 w2 : Int) (w : World) :
    Calls Try.prog 11 #[.agg #[.int .i64 l, .int .i64 r, .int .i64 n, .int .i64 o, .int .i64 q, .int .i64 v], .agg #[.int .i64 k1, .int .i64 f1, .int .i64 w1], .agg #[.int .i64 k2, .int .i64 f2, .int .i64 w2]] w fun e w' => e = .returned (.bool true) ∧ Below w.heap.size w w' := by
  have h1 := fun W => cPrice l r n o q v k1 f1 w1 W
  have h2 := fun W => cPrice l r n o q v k1 f2 w2 W
  have hp := fun (a : f1 ≤ f2) (b : w1 ≤ w2) => price_rises (l := l) (r := r) (n := n) (o := o) (q := q) (v := v) (kind := k1) a b
  generalize priceS l r n o q v k1 f1 w1 = pa at *
  generalize priceS l r n o q v k1 f2 w2 = pb at *
  have H1 := Lib.hid h1
  have H2 := Lib.hid h2
  have HP := Lib.hid hp
  clear h1 h2 hp
  go_enter Try.func11, Try.ntmps11
  go_upto_region 1 with fail
  go_cut [] (fun wx => Blk wx w.heap.size 73 #[.int .i64 l, .int .i64 r, .int .i64 n, .int .i64 o, .int .i64 q, .int .i64 v] ∧ Blk wx (w.heap.size + 1) 75 #[.int .i64 k1, .int .i64 f1, .int .i64 w1] ∧ Blk wx (w.heap.size + 1 + 1) 75 #[.int .i64 k1, .int .i64 f2, .int .i64 w2] ∧ Below w.heap.size w wx)
  case first =>
    go_wp2_with fail
    go_meet
    exact three_new _ _ _ _ _ _ _ _
  case rest =>
    obtain ⟨ka, kb, kc, hz⟩ := hcut
    have d0 := ka.at6
    have d1 := kb.at3
    have d2 := kc.at3
    have hr := Below.refl wc.heap.size wc
    clear ka kb kc
    by_cases hf : f2 < f1
    · have g1 : decide (f2 < f1) = true := by simpa using hf
      go_wp2_with fail
      refine (sLives _).mono ?_; rintro e w6 ⟨rfl, b6⟩
      go_wp2_with fail
      go_ret
      exact ⟨rfl, hz.up b6⟩
    · have g1 : decide (f2 < f1) = false := by simpa using hf
      by_cases hw : w2 < w1
      · have g2 : decide (w2 < w1) = true := by simpa using hw
        go_wp2_with fail
        refine (sLives _).mono ?_; rintro e w6 ⟨rfl, b6⟩
        go_wp2_with fail
        go_ret
        exact ⟨rfl, hz.up b6⟩
      · have g2 : decide (w2 < w1) = false := by simpa using hw
        have hp : pa ≤ pb := HP.out (by omega) (by omega)
        clear hf hw
        go_wp2_with fail
        have hu : ∀ u : Later wc.heap.size wc, Below wc.heap.size wc u.world := Later.below
        refine wp_region_later wc.heap.size (by kernel_rfl) (by kernel_rfl) ?_
        repeat (go_big_quiet_step ((first | (go_at_call 55; first | with_reducible exact later_below (Nat.le_refl _) (H1.out _) | with_reducible exact later_below (Nat.le_refl _) (H2.out _)) | (go_at_call 61; exact later_below (Nat.le_refl _) (sLives _)))))
        refine wpQuiet_nil ?_
        intro w3 b3
        clear hu
        go_wp2_with fail
        go_ret
        exact ⟨rfl, hz.up b3⟩

set_option maxHeartbeats 2000000 in
set_option maxRecDepth 100000 in
theorem costWaits (l r n o q v at_ each : Int) (ha : i64 at_) (he : i64 each) (w : World) :
    Calls Try.prog 10 #[.agg #[.int .i64 l, .int .i64 r, .int .i64 n, .int .i64 o, .int .i64 q, .int .i64 v], .int .i64 at_, .int .i64 each] w fun e w' => e = .returned (.bool true) ∧ Below w.heap.size w w' := by
  have h1 := fun W => cTurns l r n o q v W
  have h2 := fun W => rTurns l r n o q v W
  have h3 := fun W => cWait l r n o q v W
  have h4 := fun W => rWait l r n o q v W
  have h5 := fun W => cUntil l r n o q v at_ each W ha he
  have h6 := fun W => rUntil l r n o q v at_ each W ha he
  have h7 := fun W => rGood l r n o q v W
  have h8 := fun W => cMost l r n o q v W
  have t0 := turns_no (l := l) (r := r) (n := n) (o := o) (q := q) (v := v)
  have t1 := turns_def (l := l) (r := r) (n := n) (o := o) (q := q) (v := v)
  have t2 := most_bd (l := l) (r := r) (n := n) (o := o) (q := q) (v := v)
  have t3 := good_bd (l := l) (r := r) (n := n) (o := o) (q := q) (v := v)
  generalize turnsS l r n o q v = x at *
  generalize waitS l r n o q v = y at *
  generalize untilS l r n o q v at_ each = z at *
  generalize mostS l r n o q v = m at *
  generalize goodB l r n o q v = g at *
  have H1 := Lib.hid h1
  have H2 := Lib.hid h2
  have H3 := Lib.hid h3
  have H4 := Lib.hid h4
  have H5 := Lib.hid h5
  have H6 := Lib.hid h6
  have H7 := Lib.hid h7
  have H8 := Lib.hid h8
  have T0 := Lib.hid t0
  have T1 := Lib.hid t1
  have T2 := Lib.hid t2
  have T3 := Lib.hid t3
  clear h1 h2 h3 h4 h5 h6 h7 h8 t0 t1 t2 t3
  obtain ⟨w0, hw0⟩ : ∃ w0, w0 = w.alloc (.cells #[.int .i64 l, .int .i64 r, .int .i64 n, .int .i64 o, .int .i64 q, .int .i64 v] 73) := ⟨_, rfl⟩
  have hk : Blk w0 w.heap.size 73 #[.int .i64 l, .int .i64 r, .int .i64 n, .int .i64 o, .int .i64 q, .int .i64 v] := by rw [hw0]; exact Blk.new _ _ _
  have hz : Below w.heap.size w w0 := by rw [hw0]; exact (Below.refl _ _).alloc (Nat.le_refl _) _
  have HW0 := Lib.hid hw0
  clear hw0
  have d0 := hk.at6
  have hr := Below.refl w0.heap.size w0
  cases g
  all_goals
    go_enter Try.func10, Try.ntmps10
    go_upto_region 1 with fail
    rw [← HW0.out]
    have hu : ∀ u : Later w0.heap.size w0, Below w0.heap.size w0 u.world := Later.below
    refine wp_region_later w0.heap.size (by kernel_rfl) (by kernel_rfl) ?_
    repeat (go_big_quiet_step ((first | (go_at_call 62; exact later_below (Nat.le_refl _) (H1.out _)) | (go_at_call 63; exact later_below (Nat.le_refl _) (H2.out _)) | (go_at_call 64; exact later_below (Nat.le_refl _) (H3.out _)) | (go_at_call 65; exact later_below (Nat.le_refl _) (H4.out _)) | (go_at_call 66; exact later_below (Nat.le_refl _) (H5.out _)) | (go_at_call 67; exact later_below (Nat.le_refl _) (H6.out _)) | (go_at_call 57; exact later_below (Nat.le_refl _) (H7.out _)))))
    refine wpQuiet_nil ?_
    intro w1 b1
    clear hu
    go_wp2_with fail
    refine (H7.out _).mono ?_; rintro e w2 ⟨rfl, b2'⟩
    have b2 := b1.up b2'
    clear b1 b2'
    go_wp2_with fail
  · refine (H1.out _).mono ?_; rintro e w3 ⟨rfl, b3'⟩
    have b3 := b2.up b3'
    have e0 : (x == 0) = true := by rw [T0.out (by simp)]; rfl
    clear b2 b3'
    go_wp2_with fail
    refine (sLives _).mono ?_; rintro e w6 ⟨rfl, b6⟩
    go_wp2_with fail
    go_ret
    exact ⟨rfl, (hz.up b3).up b6⟩
  · obtain ⟨x1, x2, x3, x4⟩ := T1.out (by simp)
    obtain ⟨m1, m2⟩ := T2.out (by simp)
    obtain ⟨-, -, -, -, -, -, q1, q2⟩ := T3.out (by simp)
    obtain ⟨p, hp⟩ : ∃ p, p = x * q := ⟨_, rfl⟩
    have hs : (x - 1) * q = p - q := by rw [hp, Int.sub_mul, Int.one_mul]
    have hp0 : 0 ≤ p := by rw [hp]; exact Int.mul_nonneg (by omega) (by omega)
    have hp1 : p ≤ 4097000000 := by rw [hp]; exact Int.le_trans (Int.mul_le_mul x4 q2 (by omega) (by omega)) (by omega)
    rw [← hp] at x1
    rw [hs] at x2
    have s1 : IntKind.i64.wrap (x * q) = p := by rw [← hp]; exact IntWalk.i64_in _ (by omega)
    have s2 : IntKind.i64.wrap (x - 1) = x - 1 := IntWalk.i64_in _ (by omega)
    have s3 : IntKind.i64.wrap ((x - 1) * q) = p - q := by rw [hs]; exact IntWalk.i64_in _ (by omega)
    have c1 : decide (m ≤ p) = true := by simpa using x1
    have c2 : decide (p - q < m) = true := by simpa using x2
    clear hp hs x1 x2
    have hu : ∀ u : Later w2.heap.size w2, Below w0.heap.size w0 u.world := fun u => b2.up u.below
    refine wp_region_later w2.heap.size (by kernel_rfl) (by kernel_rfl) ?_
    repeat (go_big_quiet_step ((first | (go_at_call 62; exact later_below (Nat.le_refl _) (H1.out _)) | (go_at_call 59; exact later_below (Nat.le_refl _) (H8.out _)) | (go_at_call 61; exact later_below (Nat.le_refl _) (sLives _)))))
    refine wpQuiet_nil ?_
    intro w3 b3
    clear hu s1 s2 s3
    go_wp2_with fail
    go_ret
    exact ⟨rfl, (hz.up b2).up b3⟩
end Go.Proofs.Ytpnbcepljehogaa
