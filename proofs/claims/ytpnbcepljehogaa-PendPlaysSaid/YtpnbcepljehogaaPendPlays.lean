/-
  What the statement PendPlays computes: a writer, its reference and a copy tell the same at each call.
  Conditions: the calls are a list that memory holds.
-/
import Derived.Test.YtpnbcepljehogaaPendSync
import Derived.Deep.CutBlock
import Derived.Deep.RegionHeld3
namespace Go.Proofs.Ytpnbcepljehogaa
open Go.RowKit

/-- Nothing turned but blocks g and x. -/
structure Keep (w w' : World) (g x : Nat) : Prop where
  os : w'.os = w.os
  tape : w'.tape = w.tape
  output : w'.output = w.output
  size : w.heap.size ≤ w'.heap.size
  block : ∀ i, i < w.heap.size → i ≠ g → i ≠ x → w'.heap[i]? = w.heap[i]?

theorem Keep.below {w w' : World} {g x : Nat} (h : Below w.heap.size w w') : Keep w w' g x := ⟨h.os, h.tape, h.output, h.size, fun i hi _ _ => h.block i hi⟩
theorem Keep.only {w w' : World} {g x : Nat} (h : w.grownBy w' (some g)) : Keep w w' g x := ⟨h.os, h.tape, h.output, h.size, fun i hi hg _ => h.block i hi (fun e => hg (Option.some.inj e))⟩
theorem Keep.trans {a b c : World} {g x : Nat} (h : Keep a b g x) (k : Keep b c g x) : Keep a c g x :=
  ⟨k.os.trans h.os, k.tape.trans h.tape, k.output.trans h.output, Nat.le_trans h.size k.size, fun i hi hg hx => (k.block i (Nat.lt_of_lt_of_le hi h.size) hg hx).trans (h.block i hi hg hx)⟩
theorem Keep.setx {a w : World} {g x : Nat} (h : Keep a w g x) (i : Nat) (u : Value) : Keep a (w.setCell ⟨x, i, none⟩ u) g x :=
  ⟨h.os, h.tape, h.output, by simpa [World.setCell] using h.size, fun j hj hg hx => (Below.heap_setCell w ⟨x, i, none⟩ u j hx).trans (h.block j hj hg hx)⟩
theorem Blk.keep {w w' : World} {g x j : Nat} {t : TypeId} {cs : Array Value} (h : Blk w j t cs) (k : Keep w w' g x) (hg : j ≠ g) (hx : j ≠ x) : Blk w' j t cs := (k.block j h.lt hg hx).trans h
theorem below_keep {B : Nat} {w0 w w' : World} {g x : Nat} (h : Below B w0 w) (k : Keep w w' g x) (hB : B ≤ w0.heap.size) (hg : B ≤ g) (hx : B ≤ x) : Below B w0 w' :=
  ⟨k.os.trans h.os, k.tape.trans h.tape, k.output.trans h.output, Nat.le_trans h.size k.size, fun i hi => (k.block i (by have := h.size; omega) (by omega) (by omega)).trans (h.block i hi)⟩

/-- A writer in block g and its reference in block x, side by side. -/
structure Sync (w : World) (g x : Nat) (m : Int) (t : ByteArray) (s d : Nat) (tr : Int) : Prop where
  hs : s ≤ d
  hd : d ≤ t.size
  ht : t.size ≤ 20
  p : Pnd w g m t s d tr
  x : Blk w x 53 #[.string (t.extract 0 s), .string (t.extract s d), .string (t.extract d t.size), .int .i64 m, .int .i64 tr]

/-- The copy, if there is one, and what its reference holds. -/
structure Cop (B : Nat) (w0 w : World) (g x y : Nat) (m : Int) (cv : Value) : Prop where
  ne1 : g ≠ x
  ne2 : y ≠ g
  ne3 : y ≠ x
  lo1 : B ≤ g
  lo2 : B ≤ x
  lo3 : B ≤ y
  lo : B ≤ w0.heap.size
  below : Below B w0 w
  held : ∃ a b c d e, Blk w y 53 #[a, b, c, d, e]
  copy : cv = .pointer none ∨ ∃ gc t s d tr, cv = .pointer (some ⟨gc, 0, none⟩) ∧ gc ≠ g ∧ gc ≠ x ∧ gc ≠ y ∧ Sync w gc y m t s d tr

theorem Cop.keep {B : Nat} {w0 w w' : World} {g x y : Nat} {m : Int} {cv : Value} (h : Cop B w0 w g x y m cv) (k : Keep w w' g x) : Cop B w0 w' g x y m cv :=
  ⟨h.ne1, h.ne2, h.ne3, h.lo1, h.lo2, h.lo3, h.lo, below_keep h.below k h.lo h.lo1 h.lo2,
    (by obtain ⟨a, b, c, d, e, hy⟩ := h.held; exact ⟨a, b, c, d, e, hy.keep k h.ne2 h.ne3⟩),
    (by
      rcases h.copy with e | ⟨gc, t, s, d, tr, e, n1, n2, n3, hsy⟩
      · exact .inl e
      · exact .inr ⟨gc, t, s, d, tr, e, n1, n2, n3, hsy.hs, hsy.hd, hsy.ht, Blk.keep hsy.p k n1 n2, hsy.x.keep k h.ne2 h.ne3⟩)⟩

theorem keep_set5 {a w : World} {g x : Nat} (h : Keep a w g x) (q0 q1 q2 q3 q4 : Value) :
    Keep a (((((w.setCell ⟨x, 0, none⟩ q0).setCell ⟨x, 1, none⟩ q1).setCell ⟨x, 2, none⟩ q2).setCell ⟨x, 3, none⟩ q3).setCell ⟨x, 4, none⟩ q4) g x :=
  ((((h.setx 0 q0).setx 1 q1).setx 2 q2).setx 3 q3).setx 4 q4
theorem far_set5 {w : World} {g x : Nat} {t : TypeId} {cs : Array Value} (h : Blk w g t cs) (ne : g ≠ x) (q0 q1 q2 q3 q4 : Value) :
    Blk (((((w.setCell ⟨x, 0, none⟩ q0).setCell ⟨x, 1, none⟩ q1).setCell ⟨x, 2, none⟩ q2).setCell ⟨x, 3, none⟩ q3).setCell ⟨x, 4, none⟩ q4) g t cs :=
  ((((h.far (p := ⟨x, 0, none⟩) ne q0).far (p := ⟨x, 1, none⟩) ne q1).far (p := ⟨x, 2, none⟩) ne q2).far (p := ⟨x, 3, none⟩) ne q3).far (p := ⟨x, 4, none⟩) ne q4

theorem below_set5 {B : Nat} {a w : World} {x : Nat} (h : Below B a w) (hx : B ≤ x) (q0 q1 q2 q3 q4 : Value) :
    Below B a (((((w.setCell ⟨x, 0, none⟩ q0).setCell ⟨x, 1, none⟩ q1).setCell ⟨x, 2, none⟩ q2).setCell ⟨x, 3, none⟩ q3).setCell ⟨x, 4, none⟩ q4) :=
  ((((h.setCell (p := ⟨x, 0, none⟩) hx q0).setCell (p := ⟨x, 1, none⟩) hx q1).setCell (p := ⟨x, 2, none⟩) hx q2).setCell (p := ⟨x, 3, none⟩) hx q3).setCell (p := ⟨x, 4, none⟩) hx q4

set_option maxHeartbeats 4000000 in
set_option maxRecDepth 100000 in
theorem pendPlays (out a2 : Int) (ao : Option Addr) (cap n : Nat) (w : World) (hz : n ≤ maxLen)
    (hcell : ∀ i, i < n → ∃ b off K S N, ao = some ⟨b, off, none⟩ ∧ w.cell? ⟨b, off + i * 3, none⟩ = some (.int .i64 K) ∧ w.cell? ⟨b, off + i * 3 + 1, none⟩ = some (.string S) ∧ w.cell? ⟨b, off + i * 3 + 2, none⟩ = some (.int .i64 N)) (h2 : 0 ≤ a2 ∧ a2 ≤ 255) :
    Calls Try.prog 6 #[.int .i64 out, .slice ao n cap, .int .u8 a2] w fun e w' => e = .returned (.bool true) ∧ Below w.heap.size w w' := by
  have HC := Lib.hid hcell
  clear hcell
  have hzl : n ≤ 9223372036854775807 := Nat.le_trans hz (by decide)
  go_enter Try.func6, Try.ntmps6
  go_wp2_with fail
  refine (pNew _ _).mono ?_; rintro e w1 ⟨rfl, k1, hb1⟩
  go_wp2_with fail
  refine (rNew _ _).mono ?_; rintro e w2 ⟨rfl, hb2'⟩
  have k2 := Blk.later k1 hb2'
  have hb2 := hb1.up hb2'
  have hg := k2.lt
  clear k1 hb1 hb2'
  have hm : 1 ≤ min (max out 1) 4096 ∧ min (max out 1) 4096 ≤ 4096 := by omega
  generalize min (max out 1) 4096 = m at *
  generalize hB : w.heap.size = B at *
  have hBs : B ≤ w.heap.size := Nat.le_of_eq hB.symm
  have HB := Lib.hid hB
  clear hB
  go_upto_region 4 with fail
  obtain ⟨x, hx⟩ : ∃ x, w2.heap.size = x := ⟨_, rfl⟩
  generalize hw3 : (w2.alloc (.cells #[.string ⟨#[]⟩, .string ⟨#[]⟩, .string ⟨#[]⟩, .int .i64 m, .int .i64 0] 53)).alloc (.cells #[.string ⟨#[]⟩, .string ⟨#[]⟩, .string ⟨#[]⟩, .int .i64 m, .int .i64 0] 53) = w3
  have c0 : Cop B w w3 B x (x + 1) m (.pointer none) := by
    subst hx hw3
    exact ⟨by omega, by omega, by omega, Nat.le_refl _, by omega, by omega, hBs, (hb2.alloc (by omega) _).alloc (by simp; omega) _, ⟨_, _, _, _, _, by simpa using Blk.new (w2.alloc (.cells #[.string ⟨#[]⟩, .string ⟨#[]⟩, .string ⟨#[]⟩, .int .i64 m, .int .i64 0] 53)) 53 #[.string ⟨#[]⟩, .string ⟨#[]⟩, .string ⟨#[]⟩, .int .i64 m, .int .i64 0]⟩, .inl rfl⟩
  have s0 : Sync w3 B x m ⟨#[]⟩ 0 0 0 := by
    subst hx hw3
    refine ⟨Nat.le_refl _, Nat.le_refl _, by decide, Blk.alloc (Blk.alloc k2 _) _, ?_⟩
    rw [ext_none]
    exact Blk.alloc (Blk.new w2 _ _) _
  rw [hx]
  clear hx hw3 k2 hb2 hg
  generalize hy : x + 1 = y at c0 ⊢
  clear hy
  go_wp2_with fail
  go_loopw [9, 11] (fun cv i wr => ∃ (k s d : Nat) (t : ByteArray) (tr : Int), k ≤ n ∧ i = .int .i64 k ∧ Sync wr B x m t s d tr ∧ Cop B w wr B x y m cv) (fun _ i _ => n - (intOf i).toNat)
  case atStart => exact ⟨0, 0, 0, _, 0, Nat.zero_le _, rfl, s0, c0⟩
  case round =>
    obtain ⟨k, s, d, t, tr, hk, rfl, hsy, hco⟩ := hrel
    clear s0 c0
    by_cases hlt : k < n ∧ k < 20
    · obtain ⟨b, off, K, S, N, rfl, hz0, hz1, hz2⟩ := HC.out k hlt.1
      have hw := block_lt hz0
      have hwB : b < B := Nat.lt_of_lt_of_le hw (Nat.le_of_eq HB.out)
      have f0 : ∀ w', Below B w w' → w'.cell? ⟨b, off + k * 3, none⟩ = some (.int .i64 K) ∧ w'.cell? ⟨b, off + k * 3 + 1, none⟩ = some (.string S) ∧ w'.cell? ⟨b, off + k * 3 + 2, none⟩ = some (.int .i64 N) :=
        fun w' h => ⟨(h.cell (p := ⟨b, off + k * 3, none⟩) hwB).trans hz0, (h.cell (p := ⟨b, off + k * 3 + 1, none⟩) hwB).trans hz1, (h.cell (p := ⟨b, off + k * 3 + 2, none⟩) hwB).trans hz2⟩
      have e0 : (0 : Int) ≤ (k : Int) := by omega
      have e1 : (k : Int) < (n : Int) := by omega
      have e2 : (k : Int) < 20 := by omega
      have hb := hco.below
      clear hz0 hz1 hz2
      go_wp2_with fail
      refine (xCut S 20 _).mono ?_; rintro e w4 ⟨rfl, rfl⟩
      go_upto_region 9 with fail
      have hU := cutT_size S 20
      generalize cutT S 20 = U at *
      generalize hwa : wr.alloc (.cells #[.int .i64 K, .string U, .int .i64 N] 56) = wa
      have ka : Blk wa wr.heap.size 56 #[.int .i64 K, .string U, .int .i64 N] := hwa ▸ Blk.new _ _ _
      have kw : Keep wr wa B x := hwa ▸ Keep.below ((Below.refl _ _).alloc (Nat.le_refl _) _)
      have nq1 : wr.heap.size ≠ B := by have := hsy.p.lt; omega
      have nq2 : wr.heap.size ≠ x := by have := hsy.x.lt; omega
      have sy : Sync wa B x m t s d tr := hwa ▸ ⟨hsy.hs, hsy.hd, hsy.ht, Blk.alloc hsy.p _, Blk.alloc hsy.x _⟩
      have co : Cop B w wa B x y m u9 := hco.keep kw
      clear hwa hsy hco kw hb
      generalize wr.heap.size = q at *
      obtain ⟨hs, hd, ht, hp, hx⟩ := sy
      have n1 := co.ne1
      have dq := ka.at3
      have dx := hx.at5
      have hr := Below.refl wa.heap.size wa
      go_upto_block 2 with fail
      go_cut [] (fun wx => ∃ (s d : Nat) (t : ByteArray) (tr : Int), Sync wx B x m t s d tr ∧ Keep wa wx B x)
      case first =>
        by_cases hK0 : K = 0
        · subst hK0
          go_wp2_with fail
          refine (pBegin _ _ _ _ _ s d _ hp).mono ?_; rintro e w4 ⟨rfl, p4, g4⟩
          have kk := Keep.only (x := x) g4
          have x4 : Blk w4 x _ _ := hx.grown g4 (fun e => n1 (Option.some.inj e).symm)
          have q4 := ka.keep kk nq1 nq2
          clear dq dx hr hp hx ka g4
          have dq := q4.at3
          have dx := x4.at5
          have hr := Below.refl w4.heap.size w4
          go_wp2_with fail
          refine (rBegin _ _ _ _ _ _ _).mono ?_; rintro e w5 ⟨rfl, hb5⟩
          have x5 := x4.later hb5
          have p5 := Blk.later p4 hb5
          have k5 := kk.trans (Keep.below hb5)
          clear dq dx hr x4 p4 q4 hb5 kk
          have dx := x5.at5
          have hr := Below.refl w5.heap.size w5
          go_wp2_with fail
          go_meet
          refine ⟨0, 0, U, 0, ⟨Nat.le_refl _, Nat.zero_le _, hU, far_set5 p5 n1 _ _ _ _ _, ?_⟩, keep_set5 k5 _ _ _ _ _⟩
          rw [ext_none, ext_all U (Nat.le_refl _)]
          exact blk_set5 x5 _ _ _ _ _
        · by_cases hK1 : K = 1
          · subst hK1
            go_wp2_with fail
            refine (rLoadS _ _ _ _ _ _ hs hd hm).mono ?_; rintro e w4 ⟨rfl, hb4⟩
            have hd' : d + loadT m t s d ≤ t.size := by unfold loadT; split <;> omega
            have hL : Hid (loadT m t s d = loadT m t s d) := Lib.hid rfl
            have x4 := hx.later hb4
            have p4 := Blk.later hp hb4
            have k4 : Keep wa w4 B x := Keep.below hb4
            have pl : ∀ u, Pnd u B m t s d tr → Calls Try.prog 35 #[.pointer (some ⟨B, 0, none⟩)] u
              fun e w' => e = .returned (.int .i64 (loadT m t s d)) ∧ Pnd w' B m t s ((d + loadT m t s d : Nat) : Int) tr ∧ u.grownBy w' (some B) := fun u h => pLoad _ _ _ _ _ _ _ h hs hd (by omega) hm
            clear dq dx hr hx hp ka hb4
            generalize loadT m t s d = L at *
            have dx := x4.at5
            have hr := Below.refl w4.heap.size w4
            go_upto_region 15 with fail
            generalize hw5 : (((((w4.setCell ⟨x, 0, none⟩ (.string (t.extract 0 s))).setCell ⟨x, 1, none⟩ (.string (t.extract s (d + L)))).setCell ⟨x, 2, none⟩ (.string (t.extract (d + L) t.size))).setCell ⟨x, 3, none⟩ (.int .i64 m)).setCell ⟨x, 4, none⟩ (.int .i64 tr)) = w5
            have p5 : Pnd w5 B m t s d tr := hw5 ▸ far_set5 p4 n1 _ _ _ _ _
            have x5 := blk_set5 x4 (.string (t.extract 0 s)) (.string (t.extract s (d + L))) (.string (t.extract (d + L) t.size)) (.int .i64 m) (.int .i64 tr)
            have k5 := keep_set5 k4 (.string (t.extract 0 s)) (.string (t.extract s (d + L))) (.string (t.extract (d + L) t.size)) (.int .i64 m) (.int .i64 tr)
            rw [hw5] at x5 k5
            clear hw5 dx hr x4 p4 k4
            go_wp2_with fail
            refine (pl _ p5).mono ?_; rintro e w6 ⟨rfl, p6, g6⟩
            go_wp2_with fail
            go_meet
            exact ⟨s, d + L, t, tr, ⟨by omega, hd', ht, p6, x5.grown g6 (fun e => n1 (Option.some.inj e).symm)⟩, k5.trans (Keep.only g6)⟩
          · by_cases hK2 : K = 2
            · subst hK2
              go_wp2_with fail
              refine (rTakeS _ _ _ _ _ _ _ hs hd (by omega)).mono ?_; rintro e w4 ⟨rfl, hb4⟩
              have hT := takeT_le N hs
              have x4 := hx.later hb4
              have p4 := Blk.later hp hb4
              have q4 := ka.later hb4
              have k4 : Keep wa w4 B x := Keep.below hb4
              have pt : ∀ u, Pnd u B m t s d tr → Calls Try.prog 36 #[.pointer (some ⟨B, 0, none⟩), .int .i64 N] u
                fun e w' => e = .returned (.string (t.extract s (s + takeT N s d))) ∧ Pnd w' B m t ((s + takeT N s d : Nat) : Int) d (if s = d then tr else tryT N s d tr) ∧ u.grownBy w' (some B) := fun u h => pTake _ _ _ _ _ _ _ _ h hs hd (by omega)
              clear dq dx hr hx hp ka hb4
              generalize takeT N s d = T at *
              generalize (if s = d then tr else tryT N s d tr) = Z at *
              have dx := x4.at5
              have hr := Below.refl w4.heap.size w4
              go_upto_region 19 with fail
              generalize hw5 : (((((w4.setCell ⟨x, 0, none⟩ (.string (t.extract 0 (s + T)))).setCell ⟨x, 1, none⟩ (.string (t.extract (s + T) d))).setCell ⟨x, 2, none⟩ (.string (t.extract d t.size))).setCell ⟨x, 3, none⟩ (.int .i64 m)).setCell ⟨x, 4, none⟩ (.int .i64 Z)) = w5
              have p5 : Pnd w5 B m t s d tr := hw5 ▸ far_set5 p4 n1 _ _ _ _ _
              have q5 := far_set5 q4 nq2 (.string (t.extract 0 (s + T))) (.string (t.extract (s + T) d)) (.string (t.extract d t.size)) (.int .i64 m) (.int .i64 Z)
              have x5 := blk_set5 x4 (.string (t.extract 0 (s + T))) (.string (t.extract (s + T) d)) (.string (t.extract d t.size)) (.int .i64 m) (.int .i64 Z)
              have k5 := keep_set5 k4 (.string (t.extract 0 (s + T))) (.string (t.extract (s + T) d)) (.string (t.extract d t.size)) (.int .i64 m) (.int .i64 Z)
              rw [hw5] at q5 x5 k5
              clear hw5 dx hr x4 p4 k4 q4
              have dq := q5.at3
              have hr := Below.refl w5.heap.size w5
              go_wp2_with fail
              refine (pt _ p5).mono ?_; rintro e w6 ⟨rfl, p6, g6⟩
              go_wp2_with fail
              go_meet
              exact ⟨s + T, d, t, Z, ⟨hT, hd, ht, p6, x5.grown g6 (fun e => n1 (Option.some.inj e).symm)⟩, k5.trans (Keep.only g6)⟩
            · by_cases hK3 : K = 3
              · subst hK3
                obtain ⟨D, hD⟩ : ∃ D : Nat, t.size - s = D := ⟨_, rfl⟩
                have pd : ∀ u, Pnd u B m t s d tr → Calls Try.prog 45 #[.pointer (some ⟨B, 0, none⟩)] u
                  fun e w' => e = .returned (.int .i64 D) ∧ Pnd w' B m (t.extract 0 s) s s tr ∧ u.grownBy w' (some B) := fun u h => hD ▸ pDrop _ _ _ _ _ _ _ h hs hd (by omega)
                have z1 := ext_len t (s := s) hd
                have z2 := ext_len t (s := d) (Nat.le_refl _)
                have z3 : (t.extract 0 s).size = s := ext_size t (by omega)
                have z4 : (t.extract 0 s).extract 0 s = t.extract 0 s := ext_all _ (by omega)
                generalize t.extract 0 s = A1 at *
                generalize t.extract s d = A2 at *
                generalize t.extract d t.size = A3 at *
                have z5 : IntKind.i64.wrap ((A2.size : Int) + (A3.size : Int)) = (D : Int) := by rw [IntWalk.i64_in _ (by omega)]; omega
                have Z := Lib.hid (And.intro z3 z4)
                clear z1 z2 z3 z4 hD
                have x3 : wa.cell? ⟨x, 1, none⟩ = some (.string A2) := hx.cell 1
                have x3' : wa.cell? ⟨x, 2, none⟩ = some (.string A3) := hx.cell 2
                clear dx dq
                go_upto_region 22 with fail
                go_region_held3 (fun w' => w'.cell? ⟨x, 1, none⟩ = some (.string A2) ∧ w'.cell? ⟨x, 2, none⟩ = some (.string A3)) (first | go_keep | exact ⟨x6.cell 1, x6.cell 2⟩)
                  ((go_at_call 45; refine (pd _ (Blk.drew hp)).mono ?_; rintro e w6 ⟨rfl, p6, g6⟩; have x6 := Blk.grown (Blk.drew hx) g6 (fun e => n1 (Option.some.inj e).symm)))
                have dx := x6.at5
                clear hr
                have hr := Below.refl w6.heap.size w6
                clear z5 x3 x3'
                go_wp2_with fail
                go_meet
                have k6 : Keep wa w6 B x := (Keep.below (Below.refl _ _).drew).trans (Keep.only g6)
                have x7 : Blk ((w6.setCell ⟨x, 1, none⟩ (.string ⟨#[]⟩)).setCell ⟨x, 2, none⟩ (.string ⟨#[]⟩)) x 53 #[.string A1, .string ⟨#[]⟩, .string ⟨#[]⟩, .int .i64 m, .int .i64 tr] := by
                  have := (x6.set_ 1 (.string ⟨#[]⟩)).set_ 2 (.string ⟨#[]⟩)
                  simpa using this
                refine ⟨s, s, A1, tr, ⟨Nat.le_refl _, by have := Z.out.1; omega, by have := Z.out.1; omega, (Blk.far p6 (p := ⟨x, 1, none⟩) n1 _).far (p := ⟨x, 2, none⟩) n1 _, ?_⟩, (k6.setx 1 _).setx 2 _⟩
                rw [Z.out.2, ext_none, Z.out.1, ext_none]
                exact x7
              · go_wp2_with fail
                go_meet
                exact ⟨s, d, t, tr, ⟨hs, hd, ht, hp, hx⟩, Keep.below (Below.refl _ _)⟩
      case rest =>
        obtain ⟨s, d, t, tr, sy, kw⟩ := hcut
        have co := co.keep kw
        clear kw dq dx hr hp hx ka hs hd ht
        have n1 := co.ne1
        have n2 := co.ne2
        have n3 := co.ne3
        go_upto_if 94 with fail
        go_cut [9] (fun cv wx => Sync wx B x m t s d tr ∧ Cop B w wx B x y m cv)
        case first =>
          obtain ⟨v0, v1, v2, v3, v4, hy⟩ := co.held
          obtain ⟨hs, hd, ht, hp, hx⟩ := sy
          have ly := hy.lt
          have lx := hx.lt
          have lp := Blk.lt hp
          have dx := hx.at5
          have dy := hy.at5
          have hr := Below.refl wc.heap.size wc
          go_upto_region 26 with fail
          · have dz := And.intro (hx.cell 0) (And.intro (hx.cell 1) (And.intro (hx.cell 2) (And.intro (hx.cell 3) (hx.cell 4))))
            simp only [Array.getElem?_eq_getElem, List.size_toArray, List.length_cons, List.length_nil, Nat.reduceAdd, Nat.reduceLT, List.getElem_toArray, List.getElem_cons_zero, List.getElem_cons_succ] at dz
            clear dx dy
            go_region_held3 (fun w' => w'.cell? ⟨x, 0, none⟩ = some (.string (t.extract 0 s)) ∧ w'.cell? ⟨x, 1, none⟩ = some (.string (t.extract s d)) ∧ w'.cell? ⟨x, 2, none⟩ = some (.string (t.extract d t.size)) ∧ w'.cell? ⟨x, 3, none⟩ = some (.int .i64 m) ∧ w'.cell? ⟨x, 4, none⟩ = some (.int .i64 tr))
              (first | go_keep | exact ⟨x6.cell 0, x6.cell 1, x6.cell 2, x6.cell 3, x6.cell 4⟩)
              ((go_at_call 46; refine (pCopy _ _ _ _ _ _ _ (Blk.drew hp)).mono ?_; rintro e w6 ⟨rfl, p6, hb6⟩; have x6 := (Blk.drew hx).later hb6; have y6 := (Blk.drew hy).later hb6; have dy := y6.at5; have hr6 := Below.refl w6.heap.size w6))
            have below6 : Below B w w6 := (co.below.drew).up hb6 co.lo
            have x7 := far_set5 x6 (Ne.symm n3) (.string (t.extract 0 s)) (.string (t.extract s d)) (.string (t.extract d t.size)) (.int .i64 m) (.int .i64 tr)
            have y7 := blk_set5 y6 (.string (t.extract 0 s)) (.string (t.extract s d)) (.string (t.extract d t.size)) (.int .i64 m) (.int .i64 tr)
            have p7 := far_set5 ((Blk.drew hp).later hb6) (Ne.symm n2) (.string (t.extract 0 s)) (.string (t.extract s d)) (.string (t.extract d t.size)) (.int .i64 m) (.int .i64 tr)
            have c7 := far_set5 p6 (show wc.heap.size ≠ y by omega) (.string (t.extract 0 s)) (.string (t.extract s d)) (.string (t.extract d t.size)) (.int .i64 m) (.int .i64 tr)
            have b7 := below_set5 below6 co.lo3 (.string (t.extract 0 s)) (.string (t.extract s d)) (.string (t.extract d t.size)) (.int .i64 m) (.int .i64 tr)
            have g1 : wc.heap.size ≠ B := by omega
            have g2 : wc.heap.size ≠ x := by omega
            have g3 : wc.heap.size ≠ y := by omega
            go_wp2_with fail
            go_meet
            exact ⟨⟨hs, hd, ht, p7, x7⟩, n1, n2, n3, co.lo1, co.lo2, co.lo3, co.lo, b7, ⟨_, _, _, _, _, y7⟩, .inr ⟨wc.heap.size, t, s, d, tr, rfl, g1, g2, g3, hs, hd, ht, c7, y7⟩⟩
          · go_meet
            exact ⟨⟨hs, hd, ht, hp, hx⟩, co⟩
        case rest =>
          obtain ⟨sy, co⟩ := hcut
          obtain ⟨hs, hd, ht, hp, hx⟩ := sy
          have dx := hx.at5
          rcases co.copy with rfl | ⟨gc, t', s', d', tr', rfl, m1, m2, m3, hs', hd', ht', hp', hy'⟩
          · have hr := Below.refl wc.heap.size wc
            go_wp2_with fail
            refine (lTold _ _ _ _ _ _ _ hp hs hd (by omega)).mono ?_; rintro e w5 ⟨rfl, hb5⟩
            have kk : Keep wc w5 B x := Keep.below hb5
            have sy5 : Sync w5 B x m t s d tr := ⟨hs, hd, ht, Blk.later hp hb5, hx.later hb5⟩
            have co5 := co.keep kk
            clear kk hb5 hx hp dx hr co
            go_wp2_with fail
            go_roundw
            case rel => exact ⟨k + 1, s, d, t, tr, by omega, by go_num, sy5, co5⟩
            case measure => simp [intOf]; omega
          · have hr := Below.refl wc.heap.size wc
            go_wp2_with fail
            refine (lTold _ _ _ _ _ _ _ hp hs hd (by omega)).mono ?_; rintro e w5 ⟨rfl, hb5⟩
            have kk : Keep wc w5 B x := Keep.below hb5
            have sy5 : Sync w5 B x m t s d tr := ⟨hs, hd, ht, Blk.later hp hb5, hx.later hb5⟩
            have co5 := co.keep kk
            have hp5 := Blk.later hp' hb5
            have hy5 := hy'.later hb5
            clear kk hb5 hx hp dx hr co hp' hy'
            have dy := hy5.at5
            have hr := Below.refl w5.heap.size w5
            go_wp2_with fail
            refine (lTold _ _ _ _ _ _ _ hp5 hs' hd' (by omega)).mono ?_; rintro e w6 ⟨rfl, hb6⟩
            have kk : Keep w5 w6 B x := Keep.below hb6
            have sy6 : Sync w6 B x m t s d tr := ⟨hs, hd, ht, Blk.later sy5.p hb6, sy5.x.later hb6⟩
            have co6 := co5.keep kk
            clear kk hb6 dy hr co5 sy5 hp5 hy5
            go_wp2_with fail
            go_roundw
            case rel => exact ⟨k + 1, s, d, t, tr, by omega, by go_num, sy6, co6⟩
            case measure => simp [intOf]; omega
    · have hcase : (¬ (k : Int) < (n : Int)) ∨ ((k : Int) < (n : Int) ∧ ¬ (k : Int) < 20) := by omega
      clear hlt
      have hb := hco.below
      rcases hcase with hc1 | ⟨hc1, hc2⟩
      all_goals (
        go_wp2_with fail
        refine (pLives _).mono ?_; rintro e w7 ⟨rfl, hb9⟩
        have hb10 := hb.up hb9 hBs
        clear hb hb9
        go_wp2_with fail
        go_ret
        have hBe := HB.out
        exact ⟨rfl, by rw [hBe]; exact hb10⟩)
end Go.Proofs.Ytpnbcepljehogaa
