/-
  Contracts of package dial: a step of an op that sends; one comes to the second op.
  Conditions: the blocks are known; the script is one of those that are looked at.
-/
import Derived.Test.YtbhgmccaecmpjaaGreatW24
namespace Go.Proofs.YtbhgmccaecmpjaaGreat
set_option linter.unusedVariables false
set_option linter.unusedSimpArgs false
open Go.RowKit

/-- The scripts that are looked at: a text or a pause, then an answer is waited for. -/
structure ScT.fit (c : ScT) : Prop where
  o0 : (∃ u, c.o0 = .send u ∧ 0 < u.size ∧ u.size ≤ 256) ∨ (∃ n, c.o0 = .pause n ∧ 0 ≤ n ∧ n ≤ 1000000000000)
  o1 : ∃ n a, c.o1 = .expect n a ∧ (n = nev ∨ 0 ≤ n ∧ n ≤ 1000000000000) ∧ ∀ p k, a = some (p, k) → PlainS p ∧ 0 < p.size ∧ k = 2 ∧ 1 ≤ c.jm
theorem i64_of {n : Int} (h : n = nev ∨ 0 ≤ n ∧ n ≤ 1000000000000) : i64 n := by
  unfold i64 nev at *
  omega
theorem co1 {w : World} {lab : Nat → Nat} {b : DB} {c : ScT} {t : DT} (h : DiaR w lab b c t) (hc : c.fit) (hlv : t.lv = true) (hwin : t.win = []) (hn : i64 t.now) : Calls Tryz.prog 79 #[.pointer (some ⟨b.x, 0, none⟩), .int .i64 1] w fun e w' => ∃ lab' b', e = .returned (.tuple #[]) ∧ LabEq lab lab' w ∧ DiaR w' lab' b' c (comeT c t 1) ∧ b'.x = b.x ∧ Foot (fun i => isD (lab i)) w w' := by
  obtain ⟨n, a, ho, hnn, ha⟩ := hc.o1
  cases a with
  | none => exact coExp0 h ho hlv hwin ⟨hn, i64_of hnn⟩
  | some pk =>
    obtain ⟨p, k⟩ := pk
    obtain ⟨h1, h2, h3, h4⟩ := ha p k rfl
    exact coExp1 h ho h1 h2 hlv hwin ⟨hn, i64_of hnn⟩

set_option maxRecDepth 100000 in
set_option maxHeartbeats 8000000 in
theorem seLoad {w : World} {lab : Nat → Nat} {b : DB} {c : ScT} {t : DT} (h : DiaR w lab b c t) (u : ByteArray) (hrest : 0 < t.tx.size - t.ld) (s : StT) : Calls Tryz.prog 153 #[.pointer (some ⟨b.x, 0, none⟩), .agg s.cells, .agg #[.int .i64 1, .string u, .int .i64 0, .int .i64 0, .slice none 0 0, .int .i64 0, .int .i64 0]] w fun e w' => ∃ lab' b', e = .returned (.agg #[.int .i64 s.tick, .int .i64 s.at_, .int .i64 5, .int .i64 s.arm, .int .i64 (loadT c.o t.tx t.sd t.ld), .int .i64 s.st]) ∧ LabEq lab lab' w ∧ DiaR w' lab' b' c ({ t with ld := t.ld + loadT c.o t.tx t.sd t.ld }) ∧ b'.x = b.x ∧ Foot (fun i => isD (lab i)) w w' := by
  unfold StT.cells
  obtain ⟨q, hq⟩ : ∃ q, w.heap.size = q := ⟨_, rfl⟩
  obtain ⟨w1, hw1⟩ : ∃ w1, w1 = ((w.alloc (.cells #[.int .i64 s.tick, .int .i64 s.at_, .int .i64 s.what, .int .i64 s.arm, .int .i64 s.n, .int .i64 s.st] 67)).alloc (.cells #[.int .i64 1, .string u, .int .i64 0, .int .i64 0, .slice none 0 0, .int .i64 0, .int .i64 0] 29)).alloc (.cells #[.int .i64 0, .int .i64 0, .int .i64 0, .int .i64 0, .int .i64 0, .int .i64 0] 67) := ⟨_, rfl⟩
  have b1 : Below w.heap.size w w1 := by rw [hw1]; exact (((Below.refl _ _).alloc (Nat.le_refl _) _).alloc (by simp) _).alloc (by simp <;> omega) _
  have K1 : Blk w1 q 67 #[.int .i64 s.tick, .int .i64 s.at_, .int .i64 s.what, .int .i64 s.arm, .int .i64 s.n, .int .i64 s.st] := by rw [hw1, ← hq]; exact ((Blk.new _ _ _).alloc _).alloc _
  have K2 : Blk w1 (q + 1) 29 #[.int .i64 1, .string u, .int .i64 0, .int .i64 0, .slice none 0 0, .int .i64 0, .int .i64 0] := by
    rw [hw1, ← hq]
    have := (Blk.new (w.alloc (.cells #[.int .i64 s.tick, .int .i64 s.at_, .int .i64 s.what, .int .i64 s.arm, .int .i64 s.n, .int .i64 s.st] 67)) 29 #[.int .i64 1, .string u, .int .i64 0, .int .i64 0, .slice none 0 0, .int .i64 0, .int .i64 0]).alloc (.cells #[.int .i64 0, .int .i64 0, .int .i64 0, .int .i64 0, .int .i64 0, .int .i64 0] 67)
    simpa using this
  have K3 : Blk w1 (q + 1 + 1) 67 #[.int .i64 0, .int .i64 0, .int .i64 0, .int .i64 0, .int .i64 0, .int .i64 0] := by
    rw [hw1, ← hq]
    have := Blk.new ((w.alloc (.cells #[.int .i64 s.tick, .int .i64 s.at_, .int .i64 s.what, .int .i64 s.arm, .int .i64 s.n, .int .i64 s.st] 67)).alloc (.cells #[.int .i64 1, .string u, .int .i64 0, .int .i64 0, .slice none 0 0, .int .i64 0, .int .i64 0] 29)) 67 #[.int .i64 0, .int .i64 0, .int .i64 0, .int .i64 0, .int .i64 0, .int .i64 0]
    simpa using this
  have e1 := labNew_eq lab w 0
  have H1 := (h.relab e1).later b1
  have hx := h.lt
  have hpb := h.pb
  have HQ := Lib.hid hq
  have HW1 := Lib.hid hw1
  have E1 := Lib.hid e1
  have B1 := Lib.hid b1
  have HN := Lib.hid h.lab
  have HX := Lib.hid hx
  have HH := Lib.hid H1
  have K1 := Lib.hid K1
  have K2 := Lib.hid K2
  have K3 := Lib.hid K3
  have FX := Lib.hid (pRest b.px c.o t.tr t.tx t.sd t.ld w1 H1.pnd hpb.1 hpb.2.1 (by have := hpb.2.2; omega))
  have HZ : Hid (∀ i, w.heap.size ≤ i → ¬ isD (labNew lab w 0 i)) := Lib.hid fun i hi => by rw [labNew_new hi]; exact isD_zero
  have d : ∀ w', Below w1.heap.size w1 w' → w'.cell? ⟨b.x, 18, none⟩ = some (.pointer (some ⟨b.px, 0, none⟩)) := fun w' hw => Blk.cell (Blk.later H1.blk hw) 18
  have hr := Below.refl w1.heap.size w1
  obtain ⟨z, hz⟩ : ∃ z, t.tx.size - t.ld = z := ⟨_, rfl⟩
  rw [hz] at FX
  rw [hz] at hrest
  have hrz : (0 : Int) < (z : Int) := by omega
  clear hrest hz
  clear h hw1 hq e1 b1 hx hpb H1
  go_enter Tryz.func153, Tryz.ntmps153
  go_upto_region 1 with fail
  rw [← HW1.out, HQ.out]
  go_wp2_with fail
  refine FX.out.mono ?_; rintro e w2 ⟨rfl, b2⟩
  have H2 := Lib.hid (HH.out.later b2)
  have KA := K1.out.later b2
  have KB := K2.out.later b2
  have KC := K3.out.later b2
  have B2 := Lib.hid (B1.out.up b2)
  clear d hr b2
  have hpb := H2.out.pb
  have FL := Lib.hid (pLoad b.px c.o t.tr t.tx t.sd t.ld w2 H2.out.pnd hpb.1 hpb.2.1 (by have := hpb.2.2; omega) (by have := H2.out.ok.o; omega))
  have lle : t.ld + loadT c.o t.tx t.sd t.ld ≤ t.tx.size := by unfold loadT; split <;> omega
  obtain ⟨lo, hlo⟩ : ∃ lo, loadT c.o t.tx t.sd t.ld = lo := ⟨_, rfl⟩
  rw [hlo] at FL lle
  have HLO := Lib.hid hlo
  clear hlo
  have d : ∀ w', Below w2.heap.size w2 w' → w'.cell? ⟨b.x, 18, none⟩ = some (.pointer (some ⟨b.px, 0, none⟩)) := fun w' hw => Blk.cell (Blk.later H2.out.blk hw) 18
  have hr := Below.refl w2.heap.size w2
  have HPB := Lib.hid hpb
  clear hpb
  go_wp2_with fail
  refine FL.out.mono ?_; rintro e w3 ⟨rfl, p3, g3⟩
  have f3 : Foot (fun i => i = b.px) w2 w3 := Foot.grown g3 (fun g hg => by cases hg; rfl)
  have npx := HX.out.2.2.2.2.1
  have KA3 := KA.foot f3 (by have := HQ.out; omega)
  have KC3 := KC.foot f3 (by have := HQ.out; omega)
  have hnb : b.x ≠ b.px := fun e => by have := lab_inj HN.out.x HN.out.px e; omega
  have H3 : DiaR w3 (labNew lab w 0) b c { t with ld := t.ld + lo } := H2.out.ownP (t' := { t with ld := t.ld + lo }) (f3.mono fun i hi => .inr hi) (Blk.foot H2.out.blk f3 hnb) (by show Pnd w3 b.px c.o t.tx t.sd ((t.ld + lo : Nat) : Int) t.tr; rw [Int.natCast_add]; exact p3) ⟨by have := HPB.out.1; show t.sd ≤ t.ld + lo; omega, lle, HPB.out.2.2⟩ rfl rfl rfl (fun e => e)
  have H3 := Lib.hid H3
  have F3 := Lib.hid f3
  clear d hr f3 g3 p3 FL hnb
  have dA := KA3.at6
  have dC := KC3.at6
  have hr := Below.refl w3.heap.size w3
  go_wp2_with fail
  have ff := foot_set6 (F := fun i => i = q ∨ i = q + 1 + 1) (foot_set (fun i => i = q ∨ i = q + 1 + 1) (foot_set (fun i => i = q ∨ i = q + 1 + 1) (Foot.refl _ w3) q 2 (.inl rfl) (.int .i64 5)) q 4 (.inl rfl) (.int .i64 lo)) (.inr rfl) (.int .i64 s.tick) (.int .i64 s.at_) (.int .i64 5) (.int .i64 s.arm) (.int .i64 lo) (.int .i64 s.st)
  (try simp only [Exit.inBlock, Exit.then])
  refine bodyPost_ret (v := .agg #[.int .i64 s.tick, .int .i64 s.at_, .int .i64 5, .int .i64 s.arm, .int .i64 lo, .int .i64 s.st]) ?_ rfl ⟨labNew lab w 0, b, by rw [HLO.out], E1.out, ?_, rfl, ?_⟩
  · rw [results_cell_one rfl]
    go_simp
  · rw [HLO.out]
    refine H3.out.foot ff (fun i hi e => ?_)
    have := HQ.out
    rcases e with e | e <;> (rw [e] at hi; exact HZ.out _ (by omega) hi)
  · have := HQ.out
    exact ((Foot.later B2.out : Foot (fun i => isD (lab i)) w w2).then F3.out (fun i hi e => by rw [e, HN.out.px]; exact ⟨by omega, by omega⟩)).then ff (fun i hi e => by omega)

set_option maxRecDepth 100000 in
set_option maxHeartbeats 8000000 in
theorem seSent {w : World} {lab : Nat → Nat} {b : DB} {c : ScT} {t : DT} (h : DiaR w lab b c t) (u : ByteArray) (hrest : t.tx.size - t.ld = 0) (hcf : c.fit) (hlv : t.lv = true) (hwin : t.win = []) (hn : i64 t.now) (hat : t.at_ = 0) (s : StT) : Calls Tryz.prog 153 #[.pointer (some ⟨b.x, 0, none⟩), .agg s.cells, .agg #[.int .i64 1, .string u, .int .i64 0, .int .i64 0, .slice none 0 0, .int .i64 0, .int .i64 0]] w fun e w' => ∃ lab' b', e = .returned (.agg #[.int .i64 s.tick, .int .i64 s.at_, .int .i64 6, .int .i64 s.arm, .int .i64 u.size, .int .i64 s.st]) ∧ LabEq lab lab' w ∧ DiaR w' lab' b' c (comeT c t 1) ∧ b'.x = b.x ∧ Foot (fun i => isD (lab i)) w w' := by
  unfold StT.cells
  obtain ⟨q, hq⟩ : ∃ q, w.heap.size = q := ⟨_, rfl⟩
  obtain ⟨w1, hw1⟩ : ∃ w1, w1 = ((w.alloc (.cells #[.int .i64 s.tick, .int .i64 s.at_, .int .i64 s.what, .int .i64 s.arm, .int .i64 s.n, .int .i64 s.st] 67)).alloc (.cells #[.int .i64 1, .string u, .int .i64 0, .int .i64 0, .slice none 0 0, .int .i64 0, .int .i64 0] 29)).alloc (.cells #[.int .i64 0, .int .i64 0, .int .i64 0, .int .i64 0, .int .i64 0, .int .i64 0] 67) := ⟨_, rfl⟩
  have b1 : Below w.heap.size w w1 := by rw [hw1]; exact (((Below.refl _ _).alloc (Nat.le_refl _) _).alloc (by simp) _).alloc (by simp <;> omega) _
  have K1 : Blk w1 q 67 #[.int .i64 s.tick, .int .i64 s.at_, .int .i64 s.what, .int .i64 s.arm, .int .i64 s.n, .int .i64 s.st] := by rw [hw1, ← hq]; exact ((Blk.new _ _ _).alloc _).alloc _
  have K2 : Blk w1 (q + 1) 29 #[.int .i64 1, .string u, .int .i64 0, .int .i64 0, .slice none 0 0, .int .i64 0, .int .i64 0] := by
    rw [hw1, ← hq]
    have := (Blk.new (w.alloc (.cells #[.int .i64 s.tick, .int .i64 s.at_, .int .i64 s.what, .int .i64 s.arm, .int .i64 s.n, .int .i64 s.st] 67)) 29 #[.int .i64 1, .string u, .int .i64 0, .int .i64 0, .slice none 0 0, .int .i64 0, .int .i64 0]).alloc (.cells #[.int .i64 0, .int .i64 0, .int .i64 0, .int .i64 0, .int .i64 0, .int .i64 0] 67)
    simpa using this
  have K3 : Blk w1 (q + 1 + 1) 67 #[.int .i64 0, .int .i64 0, .int .i64 0, .int .i64 0, .int .i64 0, .int .i64 0] := by
    rw [hw1, ← hq]
    have := Blk.new ((w.alloc (.cells #[.int .i64 s.tick, .int .i64 s.at_, .int .i64 s.what, .int .i64 s.arm, .int .i64 s.n, .int .i64 s.st] 67)).alloc (.cells #[.int .i64 1, .string u, .int .i64 0, .int .i64 0, .slice none 0 0, .int .i64 0, .int .i64 0] 29)) 67 #[.int .i64 0, .int .i64 0, .int .i64 0, .int .i64 0, .int .i64 0, .int .i64 0]
    simpa using this
  have e1 := labNew_eq lab w 0
  have H1 := (h.relab e1).later b1
  have hx := h.lt
  have hpb := h.pb
  have HQ := Lib.hid hq
  have HW1 := Lib.hid hw1
  have E1 := Lib.hid e1
  have B1 := Lib.hid b1
  have HN := Lib.hid h.lab
  have HX := Lib.hid hx
  have HH := Lib.hid H1
  have K1 := Lib.hid K1
  have K2 := Lib.hid K2
  have K3 := Lib.hid K3
  have FX := Lib.hid (pRest b.px c.o t.tr t.tx t.sd t.ld w1 H1.pnd hpb.1 hpb.2.1 (by have := hpb.2.2; omega))
  have HZ : Hid (∀ i, w.heap.size ≤ i → ¬ isD (labNew lab w 0 i)) := Lib.hid fun i hi => by rw [labNew_new hi]; exact isD_zero
  have d : ∀ w', Below w1.heap.size w1 w' → w'.cell? ⟨b.x, 18, none⟩ = some (.pointer (some ⟨b.px, 0, none⟩)) := fun w' hw => Blk.cell (Blk.later H1.blk hw) 18
  have hr := Below.refl w1.heap.size w1
  obtain ⟨z, hz⟩ : ∃ z, t.tx.size - t.ld = z := ⟨_, rfl⟩
  rw [hz] at FX
  obtain rfl : z = 0 := hz.symm.trans hrest
  have HCF := Lib.hid (And.intro hcf (And.intro hlv (And.intro hwin (And.intro hn hat))))
  clear hrest hz hcf hlv hwin hn hat
  clear h hw1 hq e1 b1 hx hpb H1
  go_enter Tryz.func153, Tryz.ntmps153
  go_upto_region 1 with fail
  rw [← HW1.out, HQ.out]
  go_wp2_with fail
  refine FX.out.mono ?_; rintro e w2 ⟨rfl, b2⟩
  have H2 := Lib.hid (HH.out.later b2)
  have KA := K1.out.later b2
  have KB := K2.out.later b2
  have KC := K3.out.later b2
  have B2 := Lib.hid (B1.out.up b2)
  clear d hr b2
  have dA := KA.at6
  have dB := KB.at7
  have hr := Below.refl w2.heap.size w2
  go_upto_region 4 with fail
  have KBd := KB.drew
  have KX1 := KBd.far (p := ⟨q, 2, none⟩) (by show q + 1 ≠ q; omega) (.int .i64 6)
  have HB1 := Lib.hid (KX1.cell 1)
  refine wp_region_ordL (S := fun w' => w'.cell? ⟨q + 1, 1, none⟩ = some (.string u)) [0, 1, 2, 3, 4, 5, 6] 6 (by kernel_rfl) (by kernel_rfl) (by kernel_rfl) (by kernel_rfl) (by kernel_rfl) (by kernel_rfl) (KBd.cell 1) ?_
  simp only [pickL, List.filterMap_cons, List.filterMap_nil, List.getElem?_cons_zero, List.getElem?_cons_succ]
  repeat (refine ordL_take (v := ?_) (by rfl) (by rfl) ?_ ?_; rotate_left; (focus (intro w hSw; (try dsimp only at hSw); go_simp; (try with_reducible rfl))); simp only [Act.put, List.setIfInBounds_toArray, List.set_cons_zero, List.set_cons_succ])
  refine ordL_lone (by rfl) (by rfl) (fun KK hK => ?_)
  try go_simp
  refine hK.out _ _ (.inr HB1.out) ?_
  clear hK KK
  try simp only [Act.put, List.setIfInBounds_toArray, List.set_cons_zero, List.set_cons_succ]
  repeat (refine ordL_take (v := ?_) (by rfl) (by rfl) ?_ ?_; rotate_left; (focus (intro w hSw; (try dsimp only at hSw); go_simp; (try with_reducible rfl))); simp only [Act.put, List.setIfInBounds_toArray, List.set_cons_zero, List.set_cons_succ])
  refine ordL_lone (by rfl) (by rfl) (fun KK hK => ?_)
  try go_simp
  refine hK.out _ _ (.inl (by trivial)) ?_
  clear hK KK
  try simp only [Act.put, List.setIfInBounds_toArray, List.set_cons_zero, List.set_cons_succ]
  refine ordL_done ?_
  have f3 : Foot (fun i => i = q ∨ i = q + 1 + 1) w2 ((w2.setCell ⟨q, 2, none⟩ (.int .i64 6)).setCell ⟨q, 4, none⟩ (.int .i64 u.size)).drew := (foot_set (fun i => i = q ∨ i = q + 1 + 1) (foot_set (fun i => i = q ∨ i = q + 1 + 1) (Foot.refl _ w2) q 2 (.inl rfl) _) q 4 (.inl rfl) _).up (Below.refl _ _).drew
  have K3' : Blk ((w2.setCell ⟨q, 2, none⟩ (.int .i64 6)).setCell ⟨q, 4, none⟩ (.int .i64 u.size)).drew q 67 #[.int .i64 s.tick, .int .i64 s.at_, .int .i64 6, .int .i64 s.arm, .int .i64 u.size, .int .i64 s.st] := by
    have := ((KA.set_ 2 (.int .i64 6)).set_ 4 (.int .i64 u.size)).drew
    simpa using this
  have KC3 := ((KC.far (p := ⟨q, 2, none⟩) (by show q + 1 + 1 ≠ q; omega) (.int .i64 6)).far (p := ⟨q, 4, none⟩) (by show q + 1 + 1 ≠ q; omega) (.int .i64 u.size)).drew
  obtain ⟨w3, hw3⟩ : ∃ w3, w3 = ((w2.setCell ⟨q, 2, none⟩ (.int .i64 6)).setCell ⟨q, 4, none⟩ (.int .i64 u.size)).drew := ⟨_, rfl⟩
  rw [← hw3] at f3 K3' KC3
  rw [← hw3]
  have NZ : ∀ i, i = q ∨ i = q + 1 + 1 → ¬ isD (labNew lab w 0 i) := fun i e => by
    have := HQ.out
    rcases e with e | e <;> (rw [e]; exact HZ.out _ (by omega))
  have H3 := H2.out.foot f3 (fun i hi e => NZ i e hi)
  have FC := Lib.hid (co1 H3 HCF.out.1 HCF.out.2.1 HCF.out.2.2.1 HCF.out.2.2.2.1)
  have F3 := Lib.hid f3
  have NZ := Lib.hid NZ
  have d : ∀ w', Below w3.heap.size w3 w' → w'.cell? ⟨b.x, 10, none⟩ = some (.int .i64 0) := fun w' hw => (Blk.cell (Blk.later H3.blk hw) 10).trans (by show some (Value.int IntKind.i64 (t.at_ : Nat)) = _; rw [HCF.out.2.2.2.2]; rfl)
  clear hw3 dA dB hr KX1 HB1 KBd H3 f3
  have hr := Below.refl w3.heap.size w3
  go_wp2_with fail
  refine FC.out.mono ?_; rintro e w4 ⟨lab4, b4, rfl, le4, h4, ex4, f4⟩
  have KA4 := K3'.foot f4 (NZ.out _ (.inl rfl))
  have KC4 := KC3.foot f4 (NZ.out _ (.inr rfl))
  have lqc := KC3.lt
  clear d hr
  have dA := KA4.at6
  have dC := KC4.at6
  have hr := Below.refl w4.heap.size w4
  go_wp2_with fail
  have ff := foot_set6 (F := fun i => i = q + 1 + 1) (Foot.refl _ w4) rfl (.int .i64 s.tick) (.int .i64 s.at_) (.int .i64 6) (.int .i64 s.arm) (.int .i64 u.size) (.int .i64 s.st)
  have sz := B2.out.size
  have sz3 := F3.out.size
  (try simp only [Exit.inBlock, Exit.then])
  refine bodyPost_ret (v := .agg #[.int .i64 s.tick, .int .i64 s.at_, .int .i64 6, .int .i64 s.arm, .int .i64 u.size, .int .i64 s.st]) ?_ rfl ⟨lab4, b4, rfl, fun i hi => (le4 i (by omega)).trans (E1.out i hi), ?_, ex4, ?_⟩
  · rw [results_cell_one rfl]
    go_simp
  · refine h4.foot ff (fun i hi e => ?_)
    rw [e, le4 _ lqc] at hi
    exact NZ.out _ (.inr rfl) hi
  · have := HQ.out
    refine (((Foot.later B2.out : Foot (fun i => isD (lab i)) w w2).then F3.out (fun i hi e => by omega)).then f4 (fun i hi e => ?_)).then ff (fun i hi e => by omega)
    rw [E1.out i hi] at e
    exact e
end Go.Proofs.YtbhgmccaecmpjaaGreat
