/-
  The reader of rounds: what is wrong, the next word, and a number.
  Conditions: the reader's block is known whole; the line's words lie in a row.
-/
import Derived.Test.YtmnkekepccdlcaaGreatDoorWgB
import Derived.Test.YtmnkekepccdlcaaGreatDoorLex4
import Derived.Test.YtmnkekepccdlcaaGreatDoorWgE
import Derived.Test.YtmnkekepccdlcaaGreatDoorCalm
import Derived.BigQuiet
namespace Go.Proofs.YtmnkekepccdlcaaGreatDoor
set_option linter.unusedVariables false
set_option linter.unusedSimpArgs false
open Go.RowKit

/-- How far a line is read: the next word, and what is wrong at which column (from 1 on). -/
structure Rs where
  next : Nat
  col : Nat
  bad : Int
def failS (s : Rs) (k : Nat) (e : Int) : Rs := if s.bad = 0 ∧ e ≠ 0 then ⟨s.next, k + 1, e⟩ else s
def wordS (W : List Wd) (len : Nat) (s : Rs) (q : Bool) : Wd × Rs := match W[s.next]? with
  | none => (⟨[], false, 0⟩, failS s len 3)
  | some x => (x, if x.quoted = q then ⟨s.next + 1, s.col, s.bad⟩ else failS ⟨s.next + 1, s.col, s.bad⟩ x.place 2)
def numberS (W : List Wd) (len : Nat) (s : Rs) (most : Int) : Int × Rs :=
  if (wordS W len s false).2.bad ≠ 0 then (0, (wordS W len s false).2)
  else ((numW most (wordS W len s false).1.text).1, failS (wordS W len s false).2 (wordS W len s false).1.place (numW most (wordS W len s false).1.text).2)

/-- The reader in block b. -/
abbrev Rdr (w : World) (b : Nat) (v u : Value) (len : Nat) (s : Rs) : Prop :=
  Blk w b 86 #[v, u, .int .i64 (len : Nat), .int .i64 (s.next : Nat), .int .i64 (s.col : Nat), .int .i64 s.bad]
section
variable {w : World} {b : Nat} {v u : Value} {len : Nat} {s : Rs}
theorem Rdr.next {n : Int} {m : Nat} (h : Rdr w b v u len s) (e : n = (m : Nat)) : Rdr (w.setCell ⟨b, 3, none⟩ (.int .i64 n)) b v u len ⟨m, s.col, s.bad⟩ := by
  subst e; have := Blk.set_ h 3 (.int .i64 (m : Nat)); simpa [Rdr] using this
theorem Rdr.fail {k : Int} {m : Nat} {e : Int} (h : Rdr w b v u len s) (ek : k = (m + 1 : Nat)) : Rdr ((w.setCell ⟨b, 4, none⟩ (.int .i64 k)).setCell ⟨b, 5, none⟩ (.int .i64 e)) b v u len ⟨s.next, m + 1, e⟩ := by
  subst ek; have := Blk.set_ (Blk.set_ h 4 (.int .i64 (m + 1 : Nat))) 5 (.int .i64 e); simpa [Rdr] using this
end
/-- Words in a row are kept by what a reader writes. -/
theorem ow_grown {B cap b : Nat} {w w' : World} {ao : Option Addr} {l : List Wd} {cs : Array Value} (h : OW 110 B w ao cap l) (hb : Blk w b 86 cs) (hg : w.grownBy w' (some b)) : OW 110 B w' ao cap l :=
  orow_same h fun g hgg => hg.block g (World.ownsRow.lt h g hgg).2 (by
    rintro ⟨⟩
    exact orow_off h hb (by decide) hgg)

set_option maxHeartbeats 1000000 in
theorem rFail (b len k : Nat) (v u : Value) (s : Rs) (e : Int) (w : World) (h : Rdr w b v u len s) (hk : k ≤ 1000000) : Calls Tryz.prog 56 #[.pointer (some ⟨b, 0, none⟩), .int .i64 (k : Nat), .int .i64 e] w fun x w' => x = .returned (.tuple #[]) ∧ Rdr w' b v u len (failS s k e) ∧ w.grownBy w' (some b) := by
  have d0 := h.at6
  have hr := Below.refl w.heap.size w
  have s1 : IntKind.i64.wrap ((k : Int) + 1) = ((k + 1 : Nat) : Int) := by rw [IntWalk.i64_in _ (by omega)]; omega
  obtain ⟨nx, cl, bd⟩ := s
  simp only at d0 h
  by_cases c0 : bd = 0
  · subst c0
    by_cases c1 : e = 0
    · subst c1
      rw [show failS ⟨nx, cl, 0⟩ k 0 = ⟨nx, cl, 0⟩ by simp [failS]]
      go_enter Tryz.func56, Tryz.ntmps56
      go_wp2_with fail
      go_end0
      exact ⟨rfl, h, only_below (Below.refl _ _) _⟩
    · rw [show failS ⟨nx, cl, 0⟩ k e = ⟨nx, k + 1, e⟩ by simp [failS, c1]]
      have c1b := ne_b c1
      go_enter Tryz.func56, Tryz.ntmps56
      go_wp2_with fail
      go_end0
      exact ⟨rfl, Rdr.fail h rfl, only_setCell (p := ⟨b, 5, none⟩) (only_setCell (p := ⟨b, 4, none⟩) (only_below (Below.refl _ _) _) (.inl rfl) _) (.inl rfl) _⟩
  · rw [show failS ⟨nx, cl, bd⟩ k e = ⟨nx, cl, bd⟩ by simp [failS, c0]]
    have c0b := ne_b c0
    go_enter Tryz.func56, Tryz.ntmps56
    go_wp2_with fail
    go_end0
    exact ⟨rfl, h, only_below (Below.refl _ _) _⟩

set_option maxHeartbeats 4000000 in
theorem rWord (W : List Wd) (wo : Option Addr) (wcap B b len : Nat) (v : Value) (s : Rs) (q : Bool) (w : World) (h : Rdr w b v (.slice wo W.length wcap) len s) (hW : OW 110 B w wo wcap W) (hl : len ≤ 100000) (hwl : W.length ≤ 100000) (hp : ∀ x ∈ W, x.place ≤ 100000) (hn : s.next ≤ 100000) :
    Calls Tryz.prog 118 #[.pointer (some ⟨b, 0, none⟩), .bool q] w fun x w' => x = .returned (.agg (wcells (wordS W len s q).1).toArray) ∧ Rdr w' b v (.slice wo W.length wcap) len (wordS W len s q).2 ∧ w.grownBy w' (some b) := by
  obtain ⟨w0, hw0⟩ : ∃ w0, w.alloc (.cells #[.string ⟨#[]⟩, .bool false, .int .i64 0] 110) = w0 := ⟨_, rfl⟩
  have k0 : Blk w0 w.heap.size 110 #[.string ⟨#[]⟩, .bool false, .int .i64 0] := by rw [← hw0]; exact Blk.new _ _ _
  have h0 : Rdr w0 b v (.slice wo W.length wcap) len s := by rw [← hw0]; exact Blk.alloc h _
  have g0 : w.grownBy w0 (some b) := by rw [← hw0]; exact only_below ((Below.refl _ _).alloc (Nat.le_refl _) _) _
  have hbq : b ≠ w.heap.size := Nat.ne_of_lt h.lt
  have hlq : w.heap.size < w0.heap.size := k0.lt
  obtain ⟨q0, hq0⟩ : ∃ q0, w.heap.size = q0 := ⟨_, rfl⟩
  rw [hq0] at k0 hbq hlq
  have HW0 := Lib.hid hw0
  have HQ0 := Lib.hid hq0
  obtain ⟨nx, cl, bd⟩ := s
  simp only at h0 h hn
  have d0 := h0.at6
  have dk := k0.at3
  have hr := Below.refl w0.heap.size w0
  by_cases hlt : nx < W.length
  · have hx : W[nx]? = some W[nx] := List.getElem?_eq_getElem hlt
    have hpl := hp _ (List.getElem_mem hlt)
    have hW0 : OW 110 B w0 wo wcap W := by rw [← hw0]; exact World.ownsRow.alloc hW _
    obtain ⟨g, rfl, hg, d2⟩ := ow_at hW0 nx hlt
    have hS : wordS W len ⟨nx, cl, bd⟩ q = (W[nx], if W[nx].quoted = q then ⟨nx + 1, cl, bd⟩ else failS ⟨nx + 1, cl, bd⟩ W[nx].place 2) := by unfold wordS; simp only [hx]
    rw [hS]
    clear hS hx hW0 hw0 hq0 hp hW
    generalize W[nx] = x at *
    obtain ⟨tx, qx, px⟩ := x
    simp only at d2 hpl ⊢
    have e0 : (0 : Int) ≤ (nx : Int) := by omega
    have e1 : (nx : Int) < (W.length : Int) := by omega
    have s1 : IntKind.i64.wrap ((nx : Int) + 1) = ((nx + 1 : Nat) : Int) := by rw [IntWalk.i64_in _ (by omega)]; omega
    go_enter Tryz.func118, Tryz.ntmps118
    go_upto_region 1 with fail
    rw [HW0.out, HQ0.out]
    refine wp_region_later w0.heap.size (by kernel_rfl) (by kernel_rfl) ?_
    have hu : ∀ u : Later w0.heap.size w0, Below w0.heap.size w0 u.world := Later.below
    repeat (go_big_quiet_step ((fail)))
    refine wpQuiet_nil ?_
    intro w1 hb1
    have h1 := h0.later hb1
    have k1 := k0.later hb1
    have d21 : ∀ w', Below w1.heap.size w1 w' → w'.cell? ⟨g, nx * 3, none⟩ = some (.string (bt tx)) ∧ w'.cell? ⟨g, nx * 3 + 1, none⟩ = some (.bool qx) ∧ w'.cell? ⟨g, nx * 3 + 2, none⟩ = some (.int .i64 (px : Nat)) := fun w' hw => d2 w' (hb1.up hw)
    have g1 := only_trans g0 (only_below hb1 _)
    clear hu d0 dk d2 hr h0 k0 g0
    have d0 := h1.at6
    have dk := k1.at3
    have hr := Below.refl w1.heap.size w1
    go_upto_region 4 with fail
    have za : Makes Tryz.prog (fun _ => #[.string ⟨#[]⟩, .bool false, .int .i64 0]) 110 := fun _ => by kernel_rfl
    refine wp_region_calm w1.heap.size 11 (fun _ => #[.string ⟨#[]⟩, .bool false, .int .i64 0]) (Nat.le_refl _) (by kernel_rfl) (by kernel_rfl) (by kernel_rfl) ?_ ?_
    · simp [allocsOK, za]
    simp only [List.take_succ_cons, List.take_zero, List.drop_succ_cons, List.drop_zero]
    have hu : ∀ u : Later w1.heap.size w1, Below w1.heap.size w1 u.world := Later.below
    repeat (refine wpCalm_step (fun K hK => ?_); go_simp; first | (refine hK _ ?_; clear hK K) | (apply Exists.intro; refine ⟨fun _ => ?_, hK _ ?_⟩; (fail); clear hK K))
    refine wpCalm_nil ?_
    intro w2 hb2
    simp only [newThen, newAt]
    intro b5 lo5 _ h5
    have k5 : Blk w2 b5 110 _ := h5
    have h2 := h1.later hb2
    have k2 := k1.later hb2
    have g2 := only_trans g1 (only_below hb2 _)
    have n1 : b5 ≠ b := by have := h1.lt; omega
    have n2 : b5 ≠ q0 := by have := k1.lt; omega
    have n3 : w.heap.size ≤ b5 := by have := g1.size; omega
    clear hu h5 d0 dk d21 hr h1 k1 g1 hb1 hb2 za lo5 hg
    have dk := k5.at3
    have hr := Below.refl w2.heap.size w2
    go_upto_region 5 with fail
    obtain ⟨w3, hw3⟩ : ∃ w3, ((w2.setCell ⟨b5, 0, none⟩ (.string (bt tx))).setCell ⟨b5, 1, none⟩ (.bool qx)).setCell ⟨b5, 2, none⟩ (.int .i64 (px : Nat)) = w3 := ⟨_, rfl⟩
    have k53 : Blk w3 b5 110 #[.string (bt tx), .bool qx, .int .i64 (px : Nat)] := by rw [← hw3]; exact k5.set3 _ _ _
    have k23 : Blk w3 q0 110 #[.string ⟨#[]⟩, .bool false, .int .i64 0] := by rw [← hw3]; exact k2.far3 n2.symm _ _ _
    have h3 : Rdr w3 b v (.slice (some ⟨g, 0, none⟩) W.length wcap) len ⟨nx, cl, bd⟩ := by rw [← hw3]; exact Blk.far3 h2 n1.symm _ _ _
    have g3 : w.grownBy w3 (some b) := by rw [← hw3]; exact only_setCell (p := ⟨b5, 2, none⟩) (only_setCell (p := ⟨b5, 1, none⟩) (only_setCell (p := ⟨b5, 0, none⟩) g2 (.inr n3) _) (.inr n3) _) (.inr n3) _
    rw [hw3]
    clear hw3 dk hr k5 k2 h2 g2
    have d0 := h3.at6
    have hr := Below.refl w3.heap.size w3
    go_upto_region 6 with fail
    obtain ⟨w4, hw4⟩ : ∃ w4, w3.setCell ⟨b, 3, none⟩ (.int .i64 ((nx : Int) + 1)) = w4 := ⟨_, rfl⟩
    have k54 : Blk w4 b5 110 #[.string (bt tx), .bool qx, .int .i64 (px : Nat)] := by rw [← hw4]; exact k53.far (p := ⟨b, 3, none⟩) n1 _
    have k24 : Blk w4 q0 110 #[.string ⟨#[]⟩, .bool false, .int .i64 0] := by rw [← hw4]; exact k23.far (p := ⟨b, 3, none⟩) hbq.symm _
    have h4 : Rdr w4 b v (.slice (some ⟨g, 0, none⟩) W.length wcap) len ⟨nx + 1, cl, bd⟩ := by rw [← hw4]; exact Rdr.next h3 (by simp)
    have g4 : w.grownBy w4 (some b) := by rw [← hw4]; exact only_setCell (p := ⟨b, 3, none⟩) g3 (.inl rfl) _
    rw [hw4]
    have n4 : w.heap.size ≤ q0 := Nat.le_of_eq HQ0.out
    clear hw4 d0 hr k53 k23 h3 g3 hlq
    have d0 := h4.at6
    have dk := k54.at3
    have hr := Below.refl w4.heap.size w4
    have d24 := k24.at3
    cases qx <;> cases q
    · go_wp2_with fail
      have kk := k24.set3 (.string (bt tx)) (.bool false) (.int .i64 (px : Nat))
      exact bodyPost_ret (v := .agg #[.string (bt tx), .bool false, .int .i64 (px : Nat)]) (by simp [results, Tryz.results118, go_sem, kk.cell]) rfl ⟨rfl, Blk.far3 h4 hbq _ _ _, only_setCell (p := ⟨q0, 2, none⟩) (only_setCell (p := ⟨q0, 1, none⟩) (only_setCell (p := ⟨q0, 0, none⟩) g4 (.inr n4) _) (.inr n4) _) (.inr n4) _⟩
    · go_wp2_with fail
      refine (rFail b len px v _ ⟨nx + 1, cl, bd⟩ 2 w4 h4 (by omega)).mono ?_; rintro e w5 ⟨rfl, h5, g5⟩
      have k25 := k24.grown g5 (fun e => hbq (Option.some.inj e).symm)
      have k55 := k54.grown g5 (fun e => n1 (Option.some.inj e))
      have g6 := only_trans g4 g5
      clear d0 dk hr d24
      have dk := k55.at3
      have d24 := k25.at3
      have hr := Below.refl w5.heap.size w5
      go_wp2_with fail
      have kk := k25.set3 (.string (bt tx)) (.bool false) (.int .i64 (px : Nat))
      exact bodyPost_ret (v := .agg #[.string (bt tx), .bool false, .int .i64 (px : Nat)]) (by simp [results, Tryz.results118, go_sem, kk.cell]) rfl ⟨rfl, Blk.far3 h5 hbq _ _ _, only_setCell (p := ⟨q0, 2, none⟩) (only_setCell (p := ⟨q0, 1, none⟩) (only_setCell (p := ⟨q0, 0, none⟩) g6 (.inr n4) _) (.inr n4) _) (.inr n4) _⟩
    · go_wp2_with fail
      refine (rFail b len px v _ ⟨nx + 1, cl, bd⟩ 2 w4 h4 (by omega)).mono ?_; rintro e w5 ⟨rfl, h5, g5⟩
      have k25 := k24.grown g5 (fun e => hbq (Option.some.inj e).symm)
      have k55 := k54.grown g5 (fun e => n1 (Option.some.inj e))
      have g6 := only_trans g4 g5
      clear d0 dk hr d24
      have dk := k55.at3
      have d24 := k25.at3
      have hr := Below.refl w5.heap.size w5
      go_wp2_with fail
      have kk := k25.set3 (.string (bt tx)) (.bool true) (.int .i64 (px : Nat))
      exact bodyPost_ret (v := .agg #[.string (bt tx), .bool true, .int .i64 (px : Nat)]) (by simp [results, Tryz.results118, go_sem, kk.cell]) rfl ⟨rfl, Blk.far3 h5 hbq _ _ _, only_setCell (p := ⟨q0, 2, none⟩) (only_setCell (p := ⟨q0, 1, none⟩) (only_setCell (p := ⟨q0, 0, none⟩) g6 (.inr n4) _) (.inr n4) _) (.inr n4) _⟩
    · go_wp2_with fail
      have kk := k24.set3 (.string (bt tx)) (.bool true) (.int .i64 (px : Nat))
      exact bodyPost_ret (v := .agg #[.string (bt tx), .bool true, .int .i64 (px : Nat)]) (by simp [results, Tryz.results118, go_sem, kk.cell]) rfl ⟨rfl, Blk.far3 h4 hbq _ _ _, only_setCell (p := ⟨q0, 2, none⟩) (only_setCell (p := ⟨q0, 1, none⟩) (only_setCell (p := ⟨q0, 0, none⟩) g4 (.inr n4) _) (.inr n4) _) (.inr n4) _⟩
  · have hx : W[nx]? = none := List.getElem?_eq_none (by omega)
    have hS : wordS W len ⟨nx, cl, bd⟩ q = (⟨[], false, 0⟩, failS ⟨nx, cl, bd⟩ len 3) := by unfold wordS; simp only [hx]
    rw [hS]
    have e1 : ¬ (nx : Int) < (W.length : Int) := by omega
    clear hS hx hw0 hq0 hp hW
    go_enter Tryz.func118, Tryz.ntmps118
    go_upto_region 1 with fail
    rw [HW0.out, HQ0.out]
    refine wp_region_later w0.heap.size (by kernel_rfl) (by kernel_rfl) ?_
    have hu : ∀ u : Later w0.heap.size w0, Below w0.heap.size w0 u.world := Later.below
    repeat (go_big_quiet_step ((fail)))
    refine wpQuiet_nil ?_
    intro w1 hb1
    have h1 := h0.later hb1
    have k1 := k0.later hb1
    have g1 := only_trans g0 (only_below hb1 _)
    have n4 : w.heap.size ≤ q0 := Nat.le_of_eq HQ0.out
    clear hu d0 dk hr h0 k0 g0
    have d0 := h1.at6
    have dk := k1.at3
    have hr := Below.refl w1.heap.size w1
    go_wp2_with fail
    refine (rFail b len len v _ ⟨nx, cl, bd⟩ 3 w1 h1 (by omega)).mono ?_; rintro e w2 ⟨rfl, h2, g2⟩
    have k2 := k1.grown g2 (fun e => hbq (Option.some.inj e).symm)
    have g3 := only_trans g1 g2
    clear d0 dk hr
    have dk := k2.at3
    have hr := Below.refl w2.heap.size w2
    go_wp2_with fail
    have kk := k2.set3 (.string ⟨#[]⟩) (.bool false) (.int .i64 0)
    exact bodyPost_ret (v := .agg #[.string ⟨#[]⟩, .bool false, .int .i64 0]) (by simp [results, Tryz.results118, go_sem, kk.cell]) rfl ⟨rfl, Blk.far3 h2 hbq _ _ _, only_setCell (p := ⟨q0, 2, none⟩) (only_setCell (p := ⟨q0, 1, none⟩) (only_setCell (p := ⟨q0, 0, none⟩) g3 (.inr n4) _) (.inr n4) _) (.inr n4) _⟩
end Go.Proofs.YtmnkekepccdlcaaGreatDoor
