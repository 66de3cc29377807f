/-
  Contracts of package dial that only look: whether one is ready, what a step costs, the first deadline, room.
  Conditions: the blocks are known; no deadline ends the script.
-/
import Derived.Test.YtbhgmccaecmpjaaGreatW20
import Derived.Test.YtbhgmccaecmpjaaGreatW01
import Derived.Test.YtbhgmccaecmpjaaGreatShelf
import Derived.Test.YtbhgmccaecmpjaaGreatW19
namespace Go.Proofs.YtbhgmccaecmpjaaGreat
set_option linter.unusedVariables false
set_option linter.unusedSimpArgs false
open Go.RowKit

theorem opVal_send {c : ScT} {b : DB} {t : DT} {u : ByteArray} (h : opAt c t = some (.send u)) : opVal c b t = .agg #[.int .i64 1, .string u, .int .i64 0, .int .i64 0, .slice none 0 0, .int .i64 0, .int .i64 0] := by
  unfold opAt at h
  unfold opVal
  split at h
  · rename_i h0
    rw [if_pos h0]
    injection h with h; rw [h]; rfl
  · rename_i h0
    split at h
    · rename_i h1
      rw [if_neg h0, if_pos h1]
      injection h with h; rw [h]; rfl
    · cases h
theorem opVal_pause {c : ScT} {b : DB} {t : DT} {n : Int} (h : opAt c t = some (.pause n)) : opVal c b t = .agg #[.int .i64 4, .string ⟨#[]⟩, .int .i64 n, .int .i64 0, .slice none 0 0, .int .i64 0, .int .i64 0] := by
  unfold opAt at h
  unfold opVal
  split at h
  · rename_i h0
    rw [if_pos h0]
    injection h with h; rw [h]; rfl
  · rename_i h0
    split at h
    · rename_i h1
      rw [if_neg h0, if_pos h1]
      injection h with h; rw [h]; rfl
    · cases h
theorem opVal_exp0 {c : ScT} {b : DB} {t : DT} {n : Int} (h : opAt c t = some (.expect n none)) : opVal c b t = .agg #[.int .i64 2, .string ⟨#[]⟩, .int .i64 n, .int .i64 0, .slice none 0 0, .int .i64 (-1), .int .i64 (-1)] := by
  unfold opAt at h
  unfold opVal
  split at h
  · rename_i h0
    rw [if_pos h0]
    injection h with h; rw [h]; rfl
  · rename_i h0
    split at h
    · rename_i h1
      rw [if_neg h0, if_pos h1]
      injection h with h; rw [h]; rfl
    · cases h
theorem opVal_exp1 {c : ScT} {b : DB} {t : DT} {n : Int} {p : ByteArray} {k : Nat} (h : opAt c t = some (.expect n (some (p, k)))) : ∃ ag ac, opVal c b t = .agg #[.int .i64 2, .string ⟨#[]⟩, .int .i64 n, .int .i64 0, .slice (some ⟨ag, 0, none⟩) 1 ac, .int .i64 (-1), .int .i64 (-1)] ∧ ∀ w lab, DiaR w lab b c t → ag < w.heap.size ∧ lab ag = 26 ∧ w.cell? ⟨ag, 0, none⟩ = some (.string p) ∧ w.cell? ⟨ag, 1, none⟩ = some (.int .i64 (k : Nat)) := by
  unfold opAt at h
  unfold opVal
  split at h
  · rename_i h0
    rw [if_pos h0]
    injection h with h
    refine ⟨b.s.a0, b.s.c0, by rw [h]; rfl, fun w lab hh => ?_⟩
    obtain ⟨l, h1, h2⟩ := hh.scr.arm0 n p k h
    exact ⟨l, hh.lab.scr _ (.inr (.inl ⟨⟨n, p, k, h⟩, rfl⟩)), h1, h2⟩
  · rename_i h0
    split at h
    · rename_i h1
      rw [if_neg h0, if_pos h1]
      injection h with h
      refine ⟨b.s.a1, b.s.c1, by rw [h]; rfl, fun w lab hh => ?_⟩
      obtain ⟨l, h1, h2⟩ := hh.scr.arm1 n p k h
      exact ⟨l, hh.lab.scr _ (.inr (.inr ⟨⟨n, p, k, h⟩, rfl⟩)), h1, h2⟩
    · cases h
theorem opVal_none {c : ScT} {b : DB} {t : DT} (h : opAt c t = none) : opVal c b t = .agg #[.int .i64 0, .string ⟨#[]⟩, .int .i64 0, .int .i64 0, .slice none 0 0, .int .i64 0, .int .i64 0] := by
  unfold opAt at h
  unfold opVal
  split at h
  · cases h
  · rename_i h0
    split at h
    · cases h
    · rename_i h1; rw [if_neg h0, if_neg h1]; rfl
/-- What is waited for, and of what kind the op is, is all that most steps look at. -/
theorem opVal_form (c : ScT) (b : DB) (t : DT) : ∃ (kd : Int) (s : ByteArray) (n : Int) (ao : Option Addr) (m cc : Nat) (e : Int), opVal c b t = .agg #[.int .i64 kd, .string s, .int .i64 n, .int .i64 0, .slice ao m cc, .int .i64 e, .int .i64 e] ∧ kd = (match opAt c t with | none => 0 | some o => o.kind) := by
  cases h : opAt c t with
  | none => exact ⟨0, _, 0, none, 0, 0, 0, opVal_none h, rfl⟩
  | some o => cases o with
    | send u => exact ⟨1, u, 0, none, 0, 0, 0, opVal_send h, rfl⟩
    | pause n => exact ⟨4, _, n, none, 0, 0, 0, opVal_pause h, rfl⟩
    | expect n a => cases a with
      | none => exact ⟨2, _, n, none, 0, 0, -1, opVal_exp0 h, rfl⟩
      | some pk => obtain ⟨p, k⟩ := pk; obtain ⟨ag, ac, e, _⟩ := opVal_exp1 (b := b) h; exact ⟨2, _, n, _, 1, ac, -1, e, rfl⟩
theorem opKind (kd n e : Int) (s : ByteArray) (ao : Option Addr) (m cc : Nat) (w : World) : (Instr.field 29 (.agg #[.int .i64 kd, .string s, .int .i64 n, .int .i64 0, .slice ao m cc, .int .i64 e, .int .i64 e]) 0).run Tryz.prog w = .ok (.int .i64 kd) w := by
  simp [Instr.field, run_underlying Tryz.underlying29, asAgg, part]
/-- Whether one is ready, where no deadline ends the script. -/
def readyT (c : ScT) (t : DT) (now : Int) : Bool :=
  match opAt c t with
  | none => true
  | some (.send _) => t.ld - t.sd == 0
  | some (.expect _ _) => !t.inb.isEmpty || dueB t.un now
  | some (.pause _) => dueB t.un now

set_option maxRecDepth 100000 in
set_option maxHeartbeats 4000000 in
theorem diReadyI {w : World} {lab : Nat → Nat} {b : DB} {c : ScT} {t : DT} (h : DiaR w lab b c t) (h2 : t.at_ ≤ 2) (now : Int) (ho : overN t.li t.cu now = 0) : Calls Tryz.prog 95 #[.pointer (some ⟨b.x, 0, none⟩), .int .i64 now] w fun e w' => e = .returned (.bool (readyT c t now)) ∧ Below w.heap.size w w' := by
  have HH := Lib.hid h
  have FO : Hid (∀ w, Calls Tryz.prog 131 #[.agg #[.int .i64 t.un, .int .i64 t.li, .int .i64 t.cu], .int .i64 now] w fun e w' => e = .returned (.tuple #[.int .i64 0, .bool false]) ∧ Below w.heap.size w w') := Lib.hid fun w => by have := dOver t.un t.li t.cu now w; rw [ho] at this; exact this
  have FW : Hid (∀ w, Calls Tryz.prog 133 #[.agg #[.int .i64 t.un, .int .i64 t.li, .int .i64 t.cu], .int .i64 now] w fun e w' => e = .returned (.bool (dueB t.un now)) ∧ Below w.heap.size w w') := Lib.hid fun w => dWoken t.un t.li t.cu now w
  obtain ⟨kd, s, n, ao, m, cc, e, he, hkd⟩ := opVal_form c b t
  have FP : Hid (∀ w', Below w.heap.size w w' → Calls Tryz.prog 98 #[.pointer (some ⟨b.x, 0, none⟩)] w' fun e' w'' => e' = .returned (.agg #[.int .i64 kd, .string s, .int .i64 n, .int .i64 0, .slice ao m cc, .int .i64 e, .int .i64 e]) ∧ Below w'.heap.size w' w'') := Lib.hid fun w' hb => by
    have := diOpB (b := b) (c := c) (t := t) (h.later hb).blk rfl rfl (h.later hb).scr h2
    rwa [he] at this
  have d : ∀ w', Below w.heap.size w w' → w'.cell? ⟨b.x, 13, none⟩ = some (.int .i64 t.un) ∧ w'.cell? ⟨b.x, 14, none⟩ = some (.int .i64 t.li) ∧ w'.cell? ⟨b.x, 15, none⟩ = some (.int .i64 t.cu) ∧ w'.cell? ⟨b.x, 18, none⟩ = some (.pointer (some ⟨b.px, 0, none⟩)) ∧ w'.cell? ⟨b.x, 17, none⟩ = some (.pointer (some ⟨b.hx, 0, none⟩)) ∧ w'.cell? ⟨b.x, 16, none⟩ = some (.pointer (some ⟨b.rx, 0, none⟩)) ∧ w'.cell? ⟨b.x, 19, none⟩ = some (.bool false) := fun w' hw => by
    have k := Blk.later h.blk hw
    exact ⟨k.cell 13, k.cell 14, k.cell 15, k.cell 18, k.cell 17, k.cell 16, k.cell 19⟩
  have D := Lib.hid d
  have hr := Below.refl w.heap.size w
  have HK := Lib.hid hkd
  have FK := fun (kd : Int) w => opKind kd n e s ao m cc w
  clear h ho he hkd
  unfold readyT
  cases hop : opAt c t with
  | none =>
    rw [hop] at HK
    have hk : kd = 0 := HK.out
    subst hk
    go_enter Tryz.func95, Tryz.ntmps95
    go_wp2_with fail
    refine (FO.out _).mono ?_; rintro e w1 ⟨rfl, b1⟩
    go_wp2_with fail
    refine (FP.out _ b1).mono ?_; rintro e w2 ⟨rfl, b2⟩
    go_wp2_with fail
    go_ret
    exact ⟨rfl, b1.up b2⟩
  | some o =>
    rw [hop] at HK
    cases o with
    | send u =>
      have hk : kd = 1 := HK.out
      subst hk
      have hpb := HH.out.pb
      go_enter Tryz.func95, Tryz.ntmps95
      go_wp2_with fail
      refine (FO.out _).mono ?_; rintro e w1 ⟨rfl, b1⟩
      go_wp2_with fail
      refine (FP.out _ b1).mono ?_; rintro e w2 ⟨rfl, b2⟩
      have b12 := b1.up b2
      have d2 := D.out w2 b12
      have FL := Lib.hid (pLeft b.px c.o t.tr t.tx t.sd t.ld w2 (Blk.later HH.out.pnd b12) hpb.1 hpb.2.1 (by have := hpb.2.2; omega))
      obtain ⟨z, hz⟩ : ∃ z, t.ld - t.sd = z := ⟨_, rfl⟩
      rw [hz] at FL
      clear d hr hpb
      go_wp2_with fail
      refine FL.out.mono ?_; rintro e w3 ⟨rfl, b3⟩
      have ez : ((z : Int) == 0) = (z == 0) := by cases z <;> rfl
      go_wp2_with fail
      go_ret
      exact ⟨by rw [hz]; rfl, b12.up b3⟩
    | pause n =>
      have hk : kd = 4 := HK.out
      subst hk
      go_enter Tryz.func95, Tryz.ntmps95
      go_wp2_with fail
      refine (FO.out _).mono ?_; rintro e w1 ⟨rfl, b1⟩
      go_wp2_with fail
      refine (FP.out _ b1).mono ?_; rintro e w2 ⟨rfl, b2⟩
      have b12 := b1.up b2
      have d2 := D.out w2 b12
      clear d hr
      go_wp2_with fail
      refine (FW.out _).mono ?_; rintro e w3 ⟨rfl, b3⟩
      go_wp2_with fail
      go_ret
      exact ⟨rfl, b12.up b3⟩
    | expect n a =>
      have hk : kd = 2 := HK.out
      subst hk
      go_enter Tryz.func95, Tryz.ntmps95
      go_wp2_with fail
      refine (FO.out _).mono ?_; rintro e w1 ⟨rfl, b1⟩
      go_wp2_with fail
      refine (FP.out _ b1).mono ?_; rintro e w2 ⟨rfl, b2⟩
      have b12 := b1.up b2
      have d2 := D.out w2 b12
      have H2 := Lib.hid (HH.out.later b12)
      have FF := Lib.hid (hoFresh H2.out.hol)
      clear d hr
      go_wp2_with fail
      refine FF.out.mono ?_; rintro e w3 ⟨rfl, b3⟩
      have d3 := D.out w3 (b12.up b3)
      have FL := Lib.hid (riLen (H2.out.rng.later b3))
      clear d2
      go_wp2_with fail
      refine FL.out.mono ?_; rintro e w4 ⟨rfl, rfl⟩
      cases hin : t.inb with
      | nil =>
        go_wp2_with fail
        refine (FW.out _).mono ?_; rintro e w5 ⟨rfl, b5⟩
        go_wp2_with fail
        go_ret
        exact ⟨by simp [hin], (b12.up b3).up b5⟩
      | cons x l =>
        have hpos : (0 : Int) < (l.length : Int) + 1 := by omega
        go_wp2_with fail
        go_ret
        exact ⟨by simp [hin], b12.up b3⟩
end Go.Proofs.YtbhgmccaecmpjaaGreat

namespace Go.Proofs.YtbhgmccaecmpjaaGreat
set_option linter.unusedVariables false
set_option linter.unusedSimpArgs false
open Go.RowKit

/-- A number that is nowhere above the greatest. -/
def sat (x : Int) : Int := if x ≥ nev then nev else x
end Go.Proofs.YtbhgmccaecmpjaaGreat

namespace Go.Proofs.YtbhgmccaecmpjaaGreat
set_option linter.unusedVariables false
set_option linter.unusedSimpArgs false
open Go.RowKit

def clampT (x m : Int) : Int := min (max x 0) m
theorem clampT_bd {x m : Int} (hm : 0 ≤ m) : 0 ≤ clampT x m ∧ clampT x m ≤ m := by unfold clampT; omega

theorem cSome (x m : Int) (w : World) : Calls Tryz.prog 134 #[.int .i64 x, .int .i64 m] w fun e w' => e = .returned (.int .i64 (clampT x m)) ∧ w = w' := by
  unfold clampT
  go_enter Tryz.func134, Tryz.ntmps134
  go_wp2
  go_ret
  exact ⟨rfl, rfl⟩
def priceS (l r n o q v kind fresh waits : Int) : Int :=
  if goodB l r n o q v = true then (if kind = 2 then 1 + min (clampT fresh n + clampT waits n) n else if kind = 1 then 1 + clampT waits o else 1) else 0

/-- A good setup's numbers. -/
theorem good_bd {l r n o q v : Int} (hg : goodB l r n o q v = true) : 1 ≤ l ∧ l ≤ 1024 ∧ 1 ≤ n ∧ n ≤ 4096 ∧ 1 ≤ o ∧ o ≤ 4096 ∧ 1 ≤ q ∧ q ≤ 1000000 := by
  have := goodB_iff.1 hg; omega

set_option maxHeartbeats 1000000 in
theorem cPrice (l r n o q v kind fresh waits : Int) (w : World) : Calls Tryz.prog 100 #[.agg #[.int .i64 l, .int .i64 r, .int .i64 n, .int .i64 o, .int .i64 q, .int .i64 v], .int .i64 kind, .int .i64 fresh, .int .i64 waits] w
    fun e w' => e = .returned (.int .i64 (priceS l r n o q v kind fresh waits)) ∧ Below w.heap.size w w' := by
  obtain ⟨w0, hw0⟩ : ∃ w0, w0 = w.alloc (.cells #[.int .i64 l, .int .i64 r, .int .i64 n, .int .i64 o, .int .i64 q, .int .i64 v] 23) := ⟨_, rfl⟩
  have hk : Blk w0 w.heap.size 23 #[.int .i64 l, .int .i64 r, .int .i64 n, .int .i64 o, .int .i64 q, .int .i64 v] := by rw [hw0]; exact Blk.new _ _ _
  have hz : Below w.heap.size w w0 := by rw [hw0]; exact (Below.refl _ _).alloc (Nat.le_refl _) _
  have HW0 := Lib.hid hw0
  clear hw0
  have d0 := hk.at6
  have hr := Below.refl w0.heap.size w0
  unfold priceS
  cases hg : goodB l r n o q v
  · rw [if_neg (by simp)]
    go_enter Tryz.func100, Tryz.ntmps100
    go_upto_region 1 with fail
    rw [← HW0.out]
    go_wp2_with fail
    refine (cgood_no _ _ _ _ _ _ _ hg).mono ?_; rintro e w1 ⟨rfl, hb1⟩
    go_wp2_with fail
    go_ret
    exact ⟨rfl, hz.up hb1⟩
  · rw [if_pos rfl]
    obtain ⟨-, -, b1, b2, b3, b4, -, -⟩ := good_bd hg
    have f1 := clampT_bd (x := fresh) (m := n) (by omega)
    have f2 := clampT_bd (x := waits) (m := n) (by omega)
    have f3 := clampT_bd (x := waits) (m := o) (by omega)
    by_cases k2 : kind = 2
    · subst k2
      rw [if_pos rfl]
      go_enter Tryz.func100, Tryz.ntmps100
      go_upto_region 1 with fail
      rw [← HW0.out]
      go_wp2_with fail
      refine (cgood_yes _ _ _ _ _ _ _ hg).mono ?_; rintro e w1 ⟨rfl, hb1⟩
      go_wp2_with fail
      have hu : ∀ u : Later w1.heap.size w1, Below w0.heap.size w0 u.world := fun u => hb1.up u.below
      refine wp_region_later w1.heap.size (by kernel_rfl) (by kernel_rfl) ?_
      repeat (go_big_quiet_step ((go_at_call 134; exact later_same (cSome _ _ _))))
      refine wpQuiet_nil ?_
      intro w2 hb2
      go_wp2_with fail
      go_ret
      exact ⟨rfl, (hz.up hb1).up hb2⟩
    · rw [if_neg k2]
      have g2 : (kind == 2) = false := by simpa using k2
      clear k2
      by_cases k1 : kind = 1
      · subst k1
        rw [if_pos rfl]
        clear g2
        go_enter Tryz.func100, Tryz.ntmps100
        go_upto_region 1 with fail
        rw [← HW0.out]
        go_wp2_with fail
        refine (cgood_yes _ _ _ _ _ _ _ hg).mono ?_; rintro e w1 ⟨rfl, hb1⟩
        go_wp2_with fail
        refine (cSome _ _ _).mono ?_; rintro e w' ⟨rfl, rfl⟩
        go_wp2_with fail
        go_ret
        exact ⟨rfl, hz.up hb1⟩
      · rw [if_neg k1]
        have g1 : (kind == 1) = false := by simpa using k1
        clear k1
        go_enter Tryz.func100, Tryz.ntmps100
        go_upto_region 1 with fail
        rw [← HW0.out]
        go_wp2_with fail
        refine (cgood_yes _ _ _ _ _ _ _ hg).mono ?_; rintro e w1 ⟨rfl, hb1⟩
        go_wp2_with fail
        go_ret
        exact ⟨rfl, hz.up hb1⟩

end Go.Proofs.YtbhgmccaecmpjaaGreat
