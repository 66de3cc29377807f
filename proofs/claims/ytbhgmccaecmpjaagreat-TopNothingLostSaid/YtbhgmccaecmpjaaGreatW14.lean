/-
  Contracts of package arms, of no pattern, or of one of plain bytes.
  Conditions: the blocks are known; the bytes are plain ones.
-/
import Derived.Test.YtbhgmccaecmpjaaGreatW13
namespace Go.Proofs.YtbhgmccaecmpjaaGreat
set_option linter.unusedVariables false
set_option linter.unusedSimpArgs false
open Go.RowKit

/-- No pattern, or one at work. -/
inductive Pat where
  | no
  | at (t : TabT) (q : Nat)
def Pat.feed : Pat → Nat → Pat × Bool
  | .no, _ => (.no, false)
  | .at t q, c => (.at t (seekT t q c), doneT t (seekT t q c))
def Pat.fresh : Pat → Pat
  | .no => .no
  | .at t _ => .at t (startT t)
/-- Where patterns lie. -/
structure AB where
  x : Nat
  g : Nat
  tb : Nat
  cap : Nat
def AB.in_ (b : AB) (i : Nat) : Prop := i = b.x ∨ i = b.g ∨ i = b.tb
/-- A row of one arm. -/
def RowA (w : World) (g tb q : Nat) : Prop := ∃ cs, Blk w g 252 cs ∧ cs[0]? = some (.pointer (some ⟨tb, 0, none⟩)) ∧ cs[1]? = some (.int .u64 q)
def ArmS (w : World) (b : AB) : Pat → Prop
  | .no => (∃ k : Int, Blk w b.x 246 #[.slice none 0 0, .int .i64 k]) ∧ b.g = b.x ∧ b.tb = b.x
  | .at t q => (∃ k : Int, Blk w b.x 246 #[.slice (some ⟨b.g, 0, none⟩) 1 b.cap, .int .i64 k]) ∧ RowA w b.g b.tb q ∧ TabAt w b.tb t ∧ q < 2 ^ 64 ∧ b.x ≠ b.g ∧ b.x ≠ b.tb ∧ b.g ≠ b.tb
section
variable {w w' : World} {b : AB} {p : Pat} {F : Nat → Prop} {g tb q : Nat}
theorem RowA.later (h : RowA w g tb q) (k : Below w.heap.size w w') : RowA w' g tb q := by obtain ⟨cs, hb, r⟩ := h; exact ⟨cs, hb.later k, r⟩
theorem RowA.foot (h : RowA w g tb q) (k : Foot F w w') (hg : ¬ F g) : RowA w' g tb q := by obtain ⟨cs, hb, r⟩ := h; exact ⟨cs, hb.foot k hg, r⟩
theorem RowA.lt (h : RowA w g tb q) : g < w.heap.size := by obtain ⟨cs, hb, r⟩ := h; exact hb.lt
theorem RowA.at_ (h : RowA w g tb q) : ∀ w', Below w.heap.size w w' → w'.cell? ⟨g, 0, none⟩ = some (.pointer (some ⟨tb, 0, none⟩)) ∧ w'.cell? ⟨g, 1, none⟩ = some (.int .u64 q) ∧ ∀ i, w'.frozen? ⟨g, i, none⟩ = false := fun w' k => by
  obtain ⟨cs, hb, h0, h1⟩ := h.later k
  exact ⟨(hb.cell 0).trans h0, (hb.cell 1).trans h1, fun i => hb.frozen i⟩
theorem RowA.set (h : RowA w g tb q) (u : Nat) : RowA (w.setCell ⟨g, 1, none⟩ (.int .u64 u)) g tb u := by
  obtain ⟨cs, hb, h0, h1⟩ := h
  have h3 : 1 < cs.size := (Array.getElem?_eq_some_iff.1 h1).1
  exact ⟨cs.setIfInBounds 1 (.int .u64 u), hb.set_ 1 _, by rw [Array.getElem?_setIfInBounds_ne (by omega)]; exact h0, by simp [h3]⟩
theorem RowA.of {ao : Option Addr} {cap : Nat} (h : ORow 252 2 0 w (.slice ao 1 cap) 1 [.pointer (some ⟨tb, 0, none⟩), .int .u64 q]) : ∃ g, ao = some ⟨g, 0, none⟩ ∧ RowA w g tb q := by
  rcases h.2 with ⟨_, h0⟩ | ⟨g, cap', cur, hv, _, hb, h1, h2, h3, h4⟩
  · cases h0
  · cases hv
    refine ⟨g, rfl, cur, hb, ?_, ?_⟩
    · have := congrArg (fun l => l[0]?) h4
      simpa [List.getElem?_take] using this
    · have := congrArg (fun l => l[1]?) h4
      simpa [List.getElem?_take] using this
theorem ArmS.lt (h : ArmS w b p) : ∀ i, b.in_ i → i < w.heap.size := by
  cases p with
  | no =>
    obtain ⟨⟨k, hb⟩, e1, e2⟩ := h
    rintro i (rfl | rfl | rfl)
    · exact hb.lt
    · rw [e1]; exact hb.lt
    · rw [e2]; exact hb.lt
  | «at» t q =>
    obtain ⟨⟨k, hb⟩, hr, ht, _⟩ := h
    rintro i (rfl | rfl | rfl)
    · exact hb.lt
    · exact hr.lt
    · exact ht.lt
theorem ArmS.later (h : ArmS w b p) (k : Below w.heap.size w w') : ArmS w' b p := by
  cases p with
  | no => obtain ⟨⟨j, hb⟩, r⟩ := h; exact ⟨⟨j, hb.later k⟩, r⟩
  | «at» t q => obtain ⟨⟨j, hb⟩, hr, ht, r⟩ := h; exact ⟨⟨j, hb.later k⟩, hr.later k, ht.later k, r⟩
theorem ArmS.foot (h : ArmS w b p) (k : Foot F w w') (hF : ∀ i, b.in_ i → ¬ F i) : ArmS w' b p := by
  cases p with
  | no => obtain ⟨⟨j, hb⟩, r⟩ := h; exact ⟨⟨j, hb.foot k (hF _ (.inl rfl))⟩, r⟩
  | «at» t q => obtain ⟨⟨j, hb⟩, hr, ht, r⟩ := h; exact ⟨⟨j, hb.foot k (hF _ (.inl rfl))⟩, hr.foot k (hF _ (.inr (.inl rfl))), ht.foot k (hF _ (.inr (.inr rfl))), r⟩
end

set_option maxRecDepth 100000 in
set_option maxHeartbeats 4000000 in
theorem arCompile (s : ByteArray) (hs : PlainS s) (h0 : 0 < s.size) (w : World) : Calls Tryz.prog 174 #[.string s] w fun e w' => ∃ tb, e = .returned (.tuple #[.pointer (some ⟨tb, 0, none⟩), .int .i64 0, .int .i64 0]) ∧ TabAt w' tb (tabP s.data.toList) ∧ w.heap.size ≤ tb ∧ Below w.heap.size w w' := by
  have FP := Lib.hid (glParse s hs w)
  have hsz : s.data.toList.length = s.size := rfl
  have FC : Hid (∀ w1 ao cap, Its w1 w.heap.size ao cap s.data.toList → Calls Tryz.prog 189 #[.slice ao s.data.toList.length cap] w1 fun e w' => ∃ b, e = .returned (.tuple #[.pointer (some ⟨b, 0, none⟩), .int .i64 0]) ∧ TabAt w' b (tabP s.data.toList) ∧ w1.heap.size ≤ b ∧ Below w1.heap.size w1 w') := Lib.hid fun w1 ao cap h => taCompile w1 _ ao cap _ h ⟨by omega, by have := hs.2; omega⟩
  clear hs
  generalize s.data.toList = l at *
  clear hsz h0
  go_enter Tryz.func174, Tryz.ntmps174
  go_wp2_with fail
  refine FP.out.mono ?_; rintro e w1 ⟨ao, cap, rfl, h1, b1⟩
  have FC1 := Lib.hid (FC.out w1 ao cap h1)
  clear h1
  go_wp2_with fail
  refine FC1.out.mono ?_; rintro e w2 ⟨tb, rfl, h2, hlo, b2⟩
  go_wp2_with fail
  go_ret3
  exact ⟨tb, rfl, h2, by have := b1.size; omega, b1.up b2⟩
theorem arCheck (s : ByteArray) (hs : PlainS s) (h0 : 0 < s.size) (w : World) : Calls Tryz.prog 196 #[.string s] w fun e w' => e = .returned (.tuple #[.int .i64 0, .int .i64 0]) ∧ Below w.heap.size w w' := by
  have FP := Lib.hid (arCompile s hs h0 w)
  clear hs h0
  go_enter Tryz.func196, Tryz.ntmps196
  go_wp2_with fail
  refine FP.out.mono ?_; rintro e w1 ⟨tb, rfl, h1, hlo, b1⟩
  go_wp2_with fail
  go_ret2
  exact ⟨rfl, b1⟩
theorem orow_nil (e : TypeId) (k B : Nat) (w : World) : ORow e k B w (.slice none 0 0) 0 [] := ⟨by simp, .inl ⟨rfl, rfl⟩⟩
theorem arNew0 (w : World) : Calls Tryz.prog 147 #[.slice none 0 0] w fun e w' => ∃ b : AB, e = .returned (.tuple #[.pointer (some ⟨b.x, 0, none⟩), .int .i64 0, .int .i64 0]) ∧ ArmS w' b .no ∧ (∀ i, b.in_ i → w.heap.size ≤ i) ∧ Below w.heap.size w w' := by
  go_enter Tryz.func147, Tryz.ntmps147
  go_wp2_with fail
  refine wp_loop_rounds 1 ?_
  rw [rounds_succ]
  go_wp2_with fail
  go_ret3
  refine ⟨⟨w.heap.size, w.heap.size, w.heap.size, 0⟩, rfl, ⟨⟨0, Blk.new _ _ _⟩, rfl, rfl⟩, ?_, Below.alloc (Below.refl _ _) (Nat.le_refl _) _⟩
  rintro i (rfl | rfl | rfl) <;> exact Nat.le_refl _
theorem info_arm : (Tryz.prog.info? 252).map (fun i => (i.zero, i.size, i.bytes)) = some (some (.agg #[.pointer none, .int .u64 0]), 2, 16) := by kernel_rfl
set_option maxRecDepth 100000 in
set_option maxHeartbeats 4000000 in
theorem arNew1 (s : ByteArray) (hs : PlainS s) (h0 : 0 < s.size) (w : World) (pg cap : Nat) (hp : ∀ w', Below w.heap.size w w' → w'.cell? ⟨pg, 0, none⟩ = some (.string s)) : Calls Tryz.prog 147 #[.slice (some ⟨pg, 0, none⟩) 1 cap] w fun e w' => ∃ b : AB, e = .returned (.tuple #[.pointer (some ⟨b.x, 0, none⟩), .int .i64 0, .int .i64 0]) ∧ ArmS w' b (.at (tabP s.data.toList) (startT (tabP s.data.toList))) ∧ (∀ i, b.in_ i → w.heap.size ≤ i) ∧ Below w.heap.size w w' := by
  have FC : Hid (∀ w, Calls Tryz.prog 174 #[.string s] w fun e w' => ∃ tb, e = .returned (.tuple #[.pointer (some ⟨tb, 0, none⟩), .int .i64 0, .int .i64 0]) ∧ TabAt w' tb (tabP s.data.toList) ∧ w.heap.size ≤ tb ∧ Below w.heap.size w w') := Lib.hid fun w => arCompile s hs h0 w
  clear hs h0
  generalize tabP s.data.toList = t at *
  obtain ⟨x, hx⟩ : ∃ x, w.heap.size = x := ⟨_, rfl⟩
  obtain ⟨w1, hw1⟩ : ∃ w1, w1 = w.alloc (.cells #[.slice none 0 0, .int .i64 0] 246) := ⟨_, rfl⟩
  have b1 : Below w.heap.size w w1 := by rw [hw1]; exact Below.alloc (Below.refl _ _) (Nat.le_refl _) _
  have K1 : Blk w1 x 246 #[.slice none 0 0, .int .i64 0] := by rw [hw1, ← hx]; exact Blk.new _ _ _
  have HW1 := Lib.hid hw1
  have HX := Lib.hid hx
  have B1 := Lib.hid b1
  have HP := Lib.hid hp
  clear hw1 hx b1 hp
  go_enter Tryz.func147, Tryz.ntmps147
  go_upto_region 4 with fail
  rw [← HW1.out, HX.out]
  have hp1 := fun w' hb => HP.out w' (B1.out.up hb)
  have hr := Below.refl w1.heap.size w1
  go_wp2_with fail
  refine wp_loop_rounds 2 ?_
  rw [rounds_succ]
  go_wp2_with fail
  refine (FC.out _).mono ?_; rintro e w2 ⟨tb, rfl, h2, hlo, b2⟩
  clear hr hp1
  have FS := Lib.hid (taStart h2)
  have K2 := K1.later b2
  have hxt : x ≠ tb := by have := K1.lt; omega
  have hxl : w.heap.size ≤ x := by rw [HX.out]; exact Nat.le_refl _
  have hst := startT_lt h2.2
  obtain ⟨q, hq⟩ : ∃ q, startT t = q := ⟨_, rfl⟩
  rw [hq] at FS hst
  have HQ := Lib.hid hq
  have HST := Lib.hid hst
  have HXT := Lib.hid hxt
  have HXL := Lib.hid hxl
  have B2 := Lib.hid (B1.out.up b2)
  have HH2 := Lib.hid h2
  have HLO : Hid (w.heap.size ≤ tb) := Lib.hid (by have := B1.out.size; omega)
  clear hq hst hxt hxl hlo h2 b2
  go_upto_region 10 with fail
  have D : Below w2.heap.size w2 w2.drew := (Below.refl _ _).drew
  have FS' : Hid (∀ w', Below w2.heap.size w2 w' → Calls Tryz.prog 175 #[.pointer (some ⟨tb, 0, none⟩)] w' fun e w'' => e = .returned (.int .u64 (q : Nat)) ∧ w' = w'') := Lib.hid fun w' hb => by have := taStart (HH2.out.later hb); rwa [HQ.out] at this
  have dx := K2.at2
  clear FS
  refine wp_region_ordL (S := fun w' => Below w2.heap.size w2 w') [0, 1, 2, 3, 4, 5, 6, 7, 8, 9, 10, 11, 12, 13] 13 (by kernel_rfl) (by kernel_rfl) (by kernel_rfl) (by kernel_rfl) (by kernel_rfl) (by kernel_rfl) D ?_
  simp only [pickL, List.filterMap_cons, List.filterMap_nil, List.getElem?_cons_zero, List.getElem?_cons_succ]
  repeat (refine ordL_take (v := ?_) (by rfl) (by rfl) ?_ ?_; rotate_left; (focus (intro w hSw; (try dsimp only at hSw); go_simp; (try with_reducible rfl))); simp only [Act.put, List.setIfInBounds_toArray, List.set_cons_zero, List.set_cons_succ])
  refine ordL_lone (by rfl) (by rfl) (fun KK hK => ?_)
  try go_simp
  refine (FS'.out _ D).mono ?_; rintro e w3 ⟨rfl, rfl⟩
  try go_wp2_with fail
  refine hK.out _ _ (.inr D) ?_
  clear hK KK
  try simp only [Act.put, List.setIfInBounds_toArray, List.set_cons_zero, List.set_cons_succ]
  repeat (refine ordL_take (v := ?_) (by rfl) (by rfl) ?_ ?_; rotate_left; (focus (intro w hSw; (try dsimp only at hSw); go_simp; (try with_reducible rfl))); simp only [Act.put, List.setIfInBounds_toArray, List.set_cons_zero, List.set_cons_succ])
  refine ordL_lone (by rfl) (by rfl) (fun KK hK => ?_)
  try go_simp
  have ba : Below w2.heap.size w2 (w2.alloc (.cells #[.pointer (some ⟨tb, 0, none⟩), .int .u64 q] 252)).drew := (Below.alloc (Below.refl _ _) (Nat.le_refl _) _).drew
  refine hK.out _ _ (.inr ba) ?_
  clear hK KK
  try simp only [Act.put, List.setIfInBounds_toArray, List.set_cons_zero, List.set_cons_succ]
  obtain ⟨w5, hw5⟩ : ∃ w5, w5 = (w2.alloc (.cells #[.pointer (some ⟨tb, 0, none⟩), .int .u64 q] 252)).drew := ⟨_, rfl⟩
  have KN : Blk w5 w2.heap.size 252 #[.pointer (some ⟨tb, 0, none⟩), .int .u64 q] := by rw [hw5]; exact (Blk.new w2 252 #[.pointer (some ⟨tb, 0, none⟩), .int .u64 q]).drew
  rw [← hw5] at ba
  try rw [← hw5]
  have l5 : w2.heap.size < w5.heap.size := KN.lt
  refine ordL_lone (by rfl) (by rfl) (fun KK hK => ?_)
  refine wp_append1 info_arm rfl (by decide) (by decide) Tryz.underlying244 (.tmp 37) (.tmp 42) rfl (.slice none 0 0) 0 [] rfl (orow_nil _ _ 0 _) w2.heap.size rfl [.pointer (some ⟨tb, 0, none⟩), .int .u64 q] rfl ?a1 ?a2 (by omega) (Nat.zero_le _) ?a3
  case a1 => intro j u hj; exact (KN.cell j).trans (by simpa using hj)
  case a2 => intro u hu; simp at hu; rcases hu with rfl | rfl <;> rfl
  case a3 =>
  intro ao cap6 w6 o6 g6 gr6
  have b6 : Below w2.heap.size w2 w6 := ba.trans ⟨g6.os, g6.tape, g6.output, g6.size, fun i hi => g6.block i (by omega) (fun e => by cases e)⟩
  refine hK.out _ _ (.inr b6) ?_
  clear hK KK
  try simp only [Act.put, List.setIfInBounds_toArray, List.set_cons_zero, List.set_cons_succ]
  repeat (refine ordL_take (v := ?_) (by rfl) (by rfl) ?_ ?_; rotate_left; (focus (intro w hSw; (try dsimp only at hSw); go_simp; (try with_reducible rfl))); simp only [Act.put, List.setIfInBounds_toArray, List.set_cons_zero, List.set_cons_succ])
  refine ordL_lone (by rfl) (by rfl) (fun KK hK => ?_)
  have K6 := K2.later b6
  have dx6 := K6.at2
  have hr := Below.refl w6.heap.size w6
  try go_simp
  refine hK.out _ _ (.inl rfl) ?_
  clear hK KK
  try simp only [Act.put, List.setIfInBounds_toArray, List.set_cons_zero, List.set_cons_succ]
  refine ordL_done ?_
  have K7 := K6.set_ 0 (.slice ao 1 cap6)
  obtain ⟨g, rfl, r6⟩ := RowA.of o6
  have gl : w2.heap.size ≤ g := by
    rcases gr6 g rfl with e | e
    · cases e
    · omega
  have b7 : Below w.heap.size w (w6.setCell ⟨x, 0, none⟩ (.slice (some ⟨g, 0, none⟩) 1 cap6)) := (B2.out.up b6).setCell HXL.out _
  have r7 : RowA (w6.setCell ⟨x, 0, none⟩ (.slice (some ⟨g, 0, none⟩) 1 cap6)) g tb q := by obtain ⟨cs, hb, r⟩ := r6; exact ⟨cs, hb.far (p := ⟨x, 0, none⟩) (by have := K2.lt; show g ≠ x; omega) _, r⟩
  have t7 : TabAt (w6.setCell ⟨x, 0, none⟩ (.slice (some ⟨g, 0, none⟩) 1 cap6)) tb t := by obtain ⟨⟨cs, hb, r⟩, ho⟩ := HH2.out.later b6; exact ⟨⟨cs, hb.far (p := ⟨x, 0, none⟩) (Ne.symm HXT.out) _, r⟩, ho⟩
  have HALL : Hid ((∀ i, AB.in_ ⟨x, g, tb, cap6⟩ i → w.heap.size ≤ i) ∧ x ≠ g ∧ x ≠ tb ∧ g ≠ tb) := Lib.hid (by
    have l1 := K2.lt; have l2 := HH2.out.lt; have l3 := B2.out.size; have l4 := HXL.out; have l5 := HLO.out; have l6 := HXT.out
    refine ⟨?_, by omega, by omega, by omega⟩
    intro i hi
    have hi : i = x ∨ i = g ∨ i = tb := hi
    omega)
  obtain ⟨w7, hw7⟩ : ∃ w7, w7 = w6.setCell ⟨x, 0, none⟩ (.slice (some ⟨g, 0, none⟩) 1 cap6) := ⟨_, rfl⟩
  rw [← hw7] at K7 b7 r7 t7
  try rw [← hw7]
  clear hw7 K6 dx6 hr r6 o6 gr6 gl g6 b6 KN l5 hw5 ba dx D K2
  go_wp2_with fail
  rw [rounds_succ]
  go_wp2_with fail
  go_ret3
  refine ⟨⟨x, g, tb, cap6⟩, rfl, ?_, HALL.out.1, b7⟩
  rw [HQ.out]
  exact ⟨⟨0, by simpa using K7⟩, r7, t7, by have := HST.out; omega, HALL.out.2⟩
set_option maxRecDepth 100000 in
set_option maxHeartbeats 4000000 in
theorem arFeed0 {w : World} {b : AB} (h : ArmS w b .no) (c : Nat) : Calls Tryz.prog 204 #[.pointer (some ⟨b.x, 0, none⟩), .int .u8 c] w fun e w' => e = .returned (.tuple #[.int .i64 0, .bool false]) ∧ ArmS w' b .no ∧ Foot (fun i => i = b.x) w w' := by
  obtain ⟨x, g, tb, cap⟩ := b
  obtain ⟨⟨k, hb⟩, e1, e2⟩ := h
  dsimp only at hb e1 e2
  have d := hb.at2
  have hr := Below.refl w.heap.size w
  have hx := hb.lt
  have K1 := hb.set_ 1 (.int .i64 (Go.RowKit.wrap64 (k + 1)))
  obtain ⟨w1, hw1⟩ : ∃ w1, w1 = w.setCell ⟨x, 1, none⟩ (.int .i64 (Go.RowKit.wrap64 (k + 1))) := ⟨_, rfl⟩
  have f1 : Foot (fun i => i = x) w w1 := by rw [hw1]; exact foot_set (fun i => i = x) (Foot.refl _ w) x 1 rfl _
  rw [← hw1] at K1
  have HW1 := Lib.hid hw1
  have K1' : Blk w1 x 246 #[.slice none 0 0, .int .i64 (Go.RowKit.wrap64 (k + 1))] := by simpa using K1
  have HE := Lib.hid (And.intro e1 e2)
  clear hw1 K1 e1 e2
  go_enter Tryz.func204, Tryz.ntmps204
  go_upto_region 5 with fail
  rw [← HW1.out]
  clear d hr hb
  have d := K1'.at2
  have hr := Below.refl w1.heap.size w1
  go_wp2_with fail
  refine wp_loop_rounds 1 ?_
  rw [rounds_succ]
  go_wp2_with fail
  go_ret2
  exact ⟨rfl, ⟨⟨_, K1'⟩, HE.out.1, HE.out.2⟩, f1⟩
set_option maxRecDepth 100000 in
set_option maxHeartbeats 4000000 in
theorem arFeed1 {w : World} {b : AB} {t : TabT} {q : Nat} (h : ArmS w b (.at t q)) (c : Nat) (hc : c < 256) : Calls Tryz.prog 204 #[.pointer (some ⟨b.x, 0, none⟩), .int .u8 c] w fun e w' => e = .returned (.tuple #[.int .i64 0, .bool (doneT t (seekT t q c))]) ∧ ArmS w' b (.at t (seekT t q c)) ∧ Foot (fun i => i = b.x ∨ i = b.g) w w' := by
  obtain ⟨x, g, tb, cap⟩ := b
  obtain ⟨⟨k, hb⟩, hr1, ht, hq, hxg, hxt, hgt⟩ := h
  dsimp only at hb hr1 ht hxg hxt hgt
  have d := hb.at2
  have hr := Below.refl w.heap.size w
  have K1 := hb.set_ 1 (.int .i64 (Go.RowKit.wrap64 (k + 1)))
  obtain ⟨w1, hw1⟩ : ∃ w1, w1 = w.setCell ⟨x, 1, none⟩ (.int .i64 (Go.RowKit.wrap64 (k + 1))) := ⟨_, rfl⟩
  have f1 : Foot (fun i => i = x ∨ i = g) w w1 := by rw [hw1]; exact foot_set (fun i => i = x ∨ i = g) (Foot.refl _ w) x 1 (.inl rfl) _
  have R1 : RowA w1 g tb q := by obtain ⟨cs, hb, r⟩ := hr1; rw [hw1]; exact ⟨cs, hb.far (p := ⟨x, 1, none⟩) (Ne.symm hxg) _, r⟩
  have T1 : TabAt w1 tb t := by obtain ⟨⟨cs, hb, r⟩, ho⟩ := ht; rw [hw1]; exact ⟨⟨cs, hb.far (p := ⟨x, 1, none⟩) (Ne.symm hxt) _, r⟩, ho⟩
  rw [← hw1] at K1
  have HW1 := Lib.hid hw1
  have K1' : Blk w1 x 246 #[.slice (some ⟨g, 0, none⟩) 1 cap, .int .i64 (Go.RowKit.wrap64 (k + 1))] := by simpa using K1
  have HE := Lib.hid (And.intro hxg (And.intro hxt hgt))
  have hz := seekT_lt ht.2 q c
  obtain ⟨z, hzz⟩ : ∃ z, seekT t q c = z := ⟨_, rfl⟩
  have FK : Hid (∀ w', Below w1.heap.size w1 w' → Calls Tryz.prog 213 #[.pointer (some ⟨tb, 0, none⟩), .int .u64 q, .int .u8 c] w' fun e w'' => e = .returned (.int .u64 (z : Nat)) ∧ Below w'.heap.size w' w'') := Lib.hid fun w' hb => by have := taSeek (T1.later hb) q c hq hc; rwa [hzz] at this
  rw [hzz] at hz ⊢
  have HZ := Lib.hid hz
  have HT := Lib.hid T1
  have HR := Lib.hid R1
  clear hw1 K1 hz hr1 ht hxg hxt hgt hq
  go_enter Tryz.func204, Tryz.ntmps204
  go_upto_region 5 with fail
  rw [← HW1.out]
  clear d hr hb hzz
  have d := K1'.at2
  have dg := R1.at_
  have hr := Below.refl w1.heap.size w1
  go_wp2_with fail
  refine wp_loop_rounds 2 ?_
  rw [rounds_succ]
  go_upto_region 9 with fail
  refine wp_region_later_tail w1.heap.size 13 (by kernel_rfl) (by kernel_rfl) ?_
  simp only [List.take_succ_cons, List.take_zero, List.drop_succ_cons, List.drop_zero]
  have hu : ∀ u : Later w1.heap.size w1, Below w1.heap.size w1 u.world := Later.below
  repeat (go_big_quiet_step ((first | (go_at_call 213; exact later_below (Nat.le_refl _) (FK.out _ (hu _))))))
  refine wpQuiet_nil ?_
  intro w2 b2
  clear d dg hr hu
  have R2 := HR.out.later b2
  have K2 := K1'.later b2
  have T2 := HT.out.later b2
  have dg := R2.at_
  have hr := Below.refl w2.heap.size w2
  have R3 := R2.set z
  have K3 := K2.far (p := ⟨g, 1, none⟩) HE.out.1 (.int .u64 z)
  have T3 : TabAt (w2.setCell ⟨g, 1, none⟩ (.int .u64 z)) tb t := by obtain ⟨⟨cs, hb, r⟩, ho⟩ := T2; exact ⟨⟨cs, hb.far (p := ⟨g, 1, none⟩) (Ne.symm HE.out.2.2) _, r⟩, ho⟩
  have F3 := foot_set (fun i => i = x ∨ i = g) (f1.up b2) g 1 (.inr rfl) (.int .u64 z)
  obtain ⟨w3, hw3⟩ : ∃ w3, w3 = w2.setCell ⟨g, 1, none⟩ (.int .u64 z) := ⟨_, rfl⟩
  rw [← hw3] at R3 K3 T3 F3
  have HW3 := Lib.hid hw3
  clear hw3 K2 T2 R2 K1' R1 T1 f1 b2
  go_upto_region 10 with fail
  rw [← HW3.out]
  clear dg hr
  have dg := R3.at_
  have hr := Below.refl w3.heap.size w3
  have FD : Hid (∀ w', Below w3.heap.size w3 w' → Calls Tryz.prog 214 #[.pointer (some ⟨tb, 0, none⟩), .int .u64 z] w' fun e w'' => e = .returned (.bool (doneT t z)) ∧ Below w'.heap.size w' w'') := Lib.hid fun w' hb => taDone (T3.later hb) z (by have := HZ.out; omega)
  refine wp_region_later w3.heap.size (by kernel_rfl) (by kernel_rfl) ?_
  have hu : ∀ u : Later w3.heap.size w3, Below w3.heap.size w3 u.world := Later.below
  repeat (go_big_quiet_step ((first | (go_at_call 214; exact later_below (Nat.le_refl _) (FD.out _ (hu _))))))
  refine wpQuiet_nil ?_
  intro w4 b4
  have R4 := R3.later b4
  have K4 := K3.later b4
  have T4 := T3.later b4
  have F4 := F3.up b4
  clear dg hr hu FD FK R3 K3 T3 F3
  cases hdn : doneT t z
  all_goals
    go_wp2_with fail
    rw [rounds_succ]
    go_wp2_with fail
    go_ret2
    exact ⟨by rw [hdn]; rfl, ⟨⟨_, K4⟩, R4, T4, by have := HZ.out; omega, HE.out⟩, F4⟩
set_option maxRecDepth 100000 in
set_option maxHeartbeats 4000000 in
theorem arFeed {w : World} {b : AB} {p : Pat} (h : ArmS w b p) (c : Nat) (hc : c < 256) : Calls Tryz.prog 204 #[.pointer (some ⟨b.x, 0, none⟩), .int .u8 c] w fun e w' => e = .returned (.tuple #[.int .i64 0, .bool (p.feed c).2]) ∧ ArmS w' b (p.feed c).1 ∧ Foot (fun i => i = b.x ∨ i = b.g) w w' := by
  cases p with
  | no => exact (arFeed0 h c).mono fun e w' ⟨h1, h2, h3⟩ => ⟨h1, h2, h3.mono fun i hi => .inl hi⟩
  | «at» t q => exact arFeed1 h c hc
set_option maxRecDepth 100000 in
set_option maxHeartbeats 4000000 in
theorem arFresh0 {w : World} {b : AB} (h : ArmS w b .no) : Calls Tryz.prog 215 #[.pointer (some ⟨b.x, 0, none⟩)] w fun e w' => ∃ y, e = .returned (.pointer (some ⟨y, 0, none⟩)) ∧ Blk w' y 246 #[.slice none 0 0, .int .i64 0] ∧ w.heap.size ≤ y ∧ Below w.heap.size w w' := by
  obtain ⟨x, g, tb, cap⟩ := b
  obtain ⟨⟨k, hb⟩, e1, e2⟩ := h
  dsimp only at hb e1 e2
  obtain ⟨y, hy⟩ : ∃ y, w.heap.size = y := ⟨_, rfl⟩
  obtain ⟨w1, hw1⟩ : ∃ w1, w1 = w.alloc (.cells #[.slice none 0 0, .int .i64 0] 246) := ⟨_, rfl⟩
  have b1 : Below w.heap.size w w1 := by rw [hw1]; exact Below.alloc (Below.refl _ _) (Nat.le_refl _) _
  have K1 : Blk w1 y 246 #[.slice none 0 0, .int .i64 0] := by rw [hw1, ← hy]; exact Blk.new _ _ _
  have h1 := hb.later b1
  have HW1 := Lib.hid hw1
  have HY := Lib.hid hy
  have B1 := Lib.hid b1
  clear hw1 b1 hy hb
  go_enter Tryz.func215, Tryz.ntmps215
  go_upto_region 2 with fail
  rw [← HW1.out, HY.out]
  have d := h1.at2
  have hr := Below.refl w1.heap.size w1
  go_wp2_with fail
  refine wp_loop_rounds 1 ?_
  rw [rounds_succ]
  go_wp2_with fail
  go_ret
  exact ⟨y, rfl, K1, by rw [HY.out]; exact Nat.le_refl _, B1.out⟩
set_option maxRecDepth 100000 in
set_option maxHeartbeats 4000000 in
theorem arFresh1 {w : World} {b : AB} {t : TabT} {q0 : Nat} (h : ArmS w b (.at t q0)) : Calls Tryz.prog 215 #[.pointer (some ⟨b.x, 0, none⟩)] w fun e w' => ∃ y g' cap', e = .returned (.pointer (some ⟨y, 0, none⟩)) ∧ Blk w' y 246 #[.slice (some ⟨g', 0, none⟩) 1 cap', .int .i64 0] ∧ RowA w' g' b.tb (startT t) ∧ w.heap.size ≤ y ∧ w.heap.size ≤ g' ∧ y ≠ g' ∧ Below w.heap.size w w' := by
  obtain ⟨xx, g0, tb, cap⟩ := b
  obtain ⟨⟨k, hb⟩, hr1, ht, hq, hxg, hxt, hgt⟩ := h
  dsimp only at hb hr1 ht hxg hxt hgt
  clear hxg hxt hgt hq
  obtain ⟨x, hx⟩ : ∃ x, w.heap.size = x := ⟨_, rfl⟩
  obtain ⟨w1, hw1⟩ : ∃ w1, w1 = w.alloc (.cells #[.slice none 0 0, .int .i64 0] 246) := ⟨_, rfl⟩
  have b1 : Below w.heap.size w w1 := by rw [hw1]; exact Below.alloc (Below.refl _ _) (Nat.le_refl _) _
  have K1 : Blk w1 x 246 #[.slice none 0 0, .int .i64 0] := by rw [hw1, ← hx]; exact Blk.new _ _ _
  have h1 := hb.later b1
  have r1 := hr1.later b1
  have HW1 := Lib.hid hw1
  have HX := Lib.hid hx
  have B1 := Lib.hid b1
  have t1 := Lib.hid (ht.later b1)
  have hxl : w.heap.size ≤ x := by rw [hx]; exact Nat.le_refl _
  have HXL := Lib.hid hxl
  clear hw1 b1 hx hb hr1 ht hxl
  go_enter Tryz.func215, Tryz.ntmps215
  go_upto_region 2 with fail
  rw [← HW1.out, HX.out]
  have d := h1.at2
  have dg := r1.at_
  have hr := Below.refl w1.heap.size w1
  obtain ⟨z, hz⟩ : ∃ z, w1.heap.size = z := ⟨_, rfl⟩
  obtain ⟨w2, hw2⟩ : ∃ w2, w2 = w1.alloc (.cells #[.pointer (some ⟨tb, 0, none⟩), .int .u64 q0] 252) := ⟨_, rfl⟩
  have b2 : Below w1.heap.size w1 w2 := by rw [hw2]; exact Below.alloc (Below.refl _ _) (Nat.le_refl _) _
  have KZ : Blk w2 z 252 #[.pointer (some ⟨tb, 0, none⟩), .int .u64 q0] := by rw [hw2, ← hz]; exact Blk.new _ _ _
  have K2 := K1.later b2
  have HW2 := Lib.hid hw2
  have HZ := Lib.hid hz
  have B2 := Lib.hid (B1.out.up b2)
  have T2 := Lib.hid (t1.out.later b2)
  clear hw2 hz b2
  go_wp2_with fail
  refine wp_loop_rounds 2 ?_
  rw [rounds_succ]
  go_upto_region 5 with fail
  rw [← HW2.out, HZ.out]
  clear d dg hr
  have D : Below w2.heap.size w2 w2.drew := (Below.refl _ _).drew
  obtain ⟨q, hq⟩ : ∃ q, startT t = q := ⟨_, rfl⟩
  have FS' : Hid (∀ w', Below w2.heap.size w2 w' → Calls Tryz.prog 175 #[.pointer (some ⟨tb, 0, none⟩)] w' fun e w'' => e = .returned (.int .u64 (q : Nat)) ∧ w' = w'') := Lib.hid fun w' hb => by have := taStart (T2.out.later hb); rwa [hq] at this
  have HQ := Lib.hid hq
  clear hq
  have dx := K2.at2
  have dz := KZ.at2
  refine wp_region_ordL (S := fun w' => Below w2.heap.size w2 w') [0, 1, 2, 3, 4, 5, 6, 7, 8, 9, 10, 11, 12, 13, 14, 15] 15 (by kernel_rfl) (by kernel_rfl) (by kernel_rfl) (by kernel_rfl) (by kernel_rfl) (by kernel_rfl) D ?_
  simp only [pickL, List.filterMap_cons, List.filterMap_nil, List.getElem?_cons_zero, List.getElem?_cons_succ]
  repeat (refine ordL_take (v := ?_) (by rfl) (by rfl) ?_ ?_; rotate_left; (focus (intro w hSw; (try dsimp only at hSw); go_simp; (try with_reducible rfl))); simp only [Act.put, List.setIfInBounds_toArray, List.set_cons_zero, List.set_cons_succ])
  refine ordL_lone (by rfl) (by rfl) (fun KK hK => ?_)
  try go_simp
  refine (FS'.out _ D).mono ?_; rintro e w3 ⟨rfl, rfl⟩
  try go_wp2_with fail
  refine hK.out _ _ (.inr D) ?_
  clear hK KK
  try simp only [Act.put, List.setIfInBounds_toArray, List.set_cons_zero, List.set_cons_succ]
  repeat (refine ordL_take (v := ?_) (by rfl) (by rfl) ?_ ?_; rotate_left; (focus (intro w hSw; (try dsimp only at hSw); go_simp; (try with_reducible rfl))); simp only [Act.put, List.setIfInBounds_toArray, List.set_cons_zero, List.set_cons_succ])
  refine ordL_lone (by rfl) (by rfl) (fun KK hK => ?_)
  try go_simp
  have ba : Below w2.heap.size w2 (w2.alloc (.cells #[.pointer (some ⟨tb, 0, none⟩), .int .u64 q] 252)).drew := (Below.alloc (Below.refl _ _) (Nat.le_refl _) _).drew
  refine hK.out _ _ (.inr ba) ?_
  clear hK KK
  try simp only [Act.put, List.setIfInBounds_toArray, List.set_cons_zero, List.set_cons_succ]
  obtain ⟨w5, hw5⟩ : ∃ w5, w5 = (w2.alloc (.cells #[.pointer (some ⟨tb, 0, none⟩), .int .u64 q] 252)).drew := ⟨_, rfl⟩
  have KN : Blk w5 w2.heap.size 252 #[.pointer (some ⟨tb, 0, none⟩), .int .u64 q] := by rw [hw5]; exact (Blk.new w2 252 #[.pointer (some ⟨tb, 0, none⟩), .int .u64 q]).drew
  rw [← hw5] at ba
  try rw [← hw5]
  have l5 : w2.heap.size < w5.heap.size := KN.lt
  refine ordL_lone (by rfl) (by rfl) (fun KK hK => ?_)
  refine wp_append1 info_arm rfl (by decide) (by decide) Tryz.underlying244 (.tmp 21) (.tmp 28) rfl (.slice none 0 0) 0 [] rfl (orow_nil _ _ 0 _) w2.heap.size rfl [.pointer (some ⟨tb, 0, none⟩), .int .u64 q] rfl ?a1 ?a2 (by omega) (Nat.zero_le _) ?a3
  case a1 => intro j u hj; exact (KN.cell j).trans (by simpa using hj)
  case a2 => intro u hu; simp at hu; rcases hu with rfl | rfl <;> rfl
  case a3 =>
  intro ao cap6 w6 o6 g6 gr6
  have b6 : Below w2.heap.size w2 w6 := ba.trans ⟨g6.os, g6.tape, g6.output, g6.size, fun i hi => g6.block i (by omega) (fun e => by cases e)⟩
  refine hK.out _ _ (.inr b6) ?_
  clear hK KK
  try simp only [Act.put, List.setIfInBounds_toArray, List.set_cons_zero, List.set_cons_succ]
  repeat (refine ordL_take (v := ?_) (by rfl) (by rfl) ?_ ?_; rotate_left; (focus (intro w hSw; (try dsimp only at hSw); go_simp; (try with_reducible rfl))); simp only [Act.put, List.setIfInBounds_toArray, List.set_cons_zero, List.set_cons_succ])
  refine ordL_lone (by rfl) (by rfl) (fun KK hK => ?_)
  have K6 := K2.later b6
  have dx6 := K6.at2
  have hr := Below.refl w6.heap.size w6
  try go_simp
  refine hK.out _ _ (.inl rfl) ?_
  clear hK KK
  try simp only [Act.put, List.setIfInBounds_toArray, List.set_cons_zero, List.set_cons_succ]
  refine ordL_done ?_
  have K7 := K6.set_ 0 (.slice ao 1 cap6)
  obtain ⟨g, rfl, r6⟩ := RowA.of o6
  have gl : w2.heap.size ≤ g := by
    rcases gr6 g rfl with e | e
    · cases e
    · omega
  have b7 : Below w.heap.size w (w6.setCell ⟨x, 0, none⟩ (.slice (some ⟨g, 0, none⟩) 1 cap6)) := (B2.out.up b6).setCell HXL.out _
  have r7 : RowA (w6.setCell ⟨x, 0, none⟩ (.slice (some ⟨g, 0, none⟩) 1 cap6)) g tb q := by obtain ⟨cs, hb, r⟩ := r6; exact ⟨cs, hb.far (p := ⟨x, 0, none⟩) (by have := K2.lt; show g ≠ x; omega) _, r⟩
  have HALL : Hid (w.heap.size ≤ x ∧ w.heap.size ≤ g ∧ x ≠ g) := Lib.hid (by
    have l1 := K2.lt; have l3 := B2.out.size; have l4 := HXL.out
    refine ⟨by omega, by omega, by omega⟩)
  obtain ⟨w7, hw7⟩ : ∃ w7, w7 = w6.setCell ⟨x, 0, none⟩ (.slice (some ⟨g, 0, none⟩) 1 cap6) := ⟨_, rfl⟩
  rw [← hw7] at K7 b7 r7
  try rw [← hw7]
  clear hw7 K6 dx6 hr r6 o6 gr6 gl g6 b6 KN l5 hw5 ba dx dz D K2 KZ
  go_wp2_with fail
  rw [rounds_succ]
  go_wp2_with fail
  go_ret
  rw [HQ.out]
  exact ⟨x, g, cap6, rfl, by simpa using K7, r7, HALL.out.1, HALL.out.2.1, HALL.out.2.2, b7⟩
theorem arReset {w : World} {b : AB} {p : Pat} (h : ArmS w b p) : Calls Tryz.prog 205 #[.pointer (some ⟨b.x, 0, none⟩)] w fun e w' => ∃ b' : AB, e = .returned (.tuple #[]) ∧ b'.x = b.x ∧ ArmS w' b' p.fresh ∧ (∀ i, b'.in_ i → b.in_ i ∨ w.heap.size ≤ i) ∧ Foot (fun i => i = b.x) w w' := by
  have hx : b.x < w.heap.size := h.lt _ (.inl rfl)
  have HH := Lib.hid h
  cases p with
  | no =>
    have FF := Lib.hid (arFresh0 h)
    have HX := Lib.hid hx
    obtain ⟨x, g, tb, cap⟩ := b
    have KB := h.1
    obtain ⟨k, KB⟩ := KB
    dsimp only at KB hx FF
    clear h
    go_enter Tryz.func205, Tryz.ntmps205
    go_wp2_with fail
    refine FF.out.mono ?_; rintro e w1 ⟨y, rfl, hy, hyl, b1⟩
    have K1 := KB.later b1
    have d := hy.at2
    have dx := K1.at2
    have hr := Below.refl w1.heap.size w1
    go_wp2_with fail
    go_end0
    refine ⟨⟨x, x, x, cap⟩, rfl, rfl, ⟨⟨0, ?_⟩, rfl, rfl⟩, ?_, ?_⟩
    · have := (K1.set_ 0 (.slice none 0 0)).set_ 1 (.int .i64 0)
      simpa using this
    · rintro i (e | e | e) <;> exact .inl (.inl e)
    · exact foot_set2 (F := fun i => i = x) (Foot.later b1) rfl _ _
  | «at» t q =>
    have FF := Lib.hid (arFresh1 h)
    obtain ⟨x, g, tb, cap⟩ := b
    obtain ⟨⟨k, KB⟩, hr1, ht, hq, hxg, hxt, hgt⟩ := h
    dsimp only at KB hx FF hr1 ht hxg hxt hgt
    have hr0 := ht
    have HT := Lib.hid ht
    have HX := Lib.hid hxt
    clear hr1 ht hxg hxt hgt hr0
    go_enter Tryz.func205, Tryz.ntmps205
    go_wp2_with fail
    refine FF.out.mono ?_; rintro e w1 ⟨y, g', cap', rfl, hy, hg, hyl, hgl, hyg, b1⟩
    have K1 := KB.later b1
    have d := hy.at2
    have dx := K1.at2
    have hr := Below.refl w1.heap.size w1
    go_wp2_with fail
    go_end0
    have hgx : g' ≠ x := by omega
    have hgt : g' ≠ tb := by have := HT.out.lt; omega
    refine ⟨⟨x, g', tb, cap'⟩, rfl, rfl, ⟨⟨0, ?_⟩, ?_, ?_, by have := startT_lt HT.out.2; omega, Ne.symm hgx, HX.out, hgt⟩, ?_, ?_⟩
    · have := (K1.set_ 0 (.slice (some ⟨g', 0, none⟩) 1 cap')).set_ 1 (.int .i64 0)
      simpa using this
    · obtain ⟨cs, hb, r⟩ := hg
      exact ⟨cs, (hb.far (p := ⟨x, 0, none⟩) hgx _).far (p := ⟨x, 1, none⟩) hgx _, r⟩
    · obtain ⟨⟨cs, hb, r⟩, ho⟩ := HT.out.later b1
      exact ⟨⟨cs, (hb.far (p := ⟨x, 0, none⟩) (Ne.symm HX.out) _).far (p := ⟨x, 1, none⟩) (Ne.symm HX.out) _, r⟩, ho⟩
    · rintro i (e | e | e)
      · exact .inl (.inl e)
      · refine .inr ?_
        have e : i = g' := e
        omega
      · exact .inl (.inr (.inr e))
    · exact foot_set2 (F := fun i => i = x) (Foot.later b1) rfl _ _
end Go.Proofs.YtbhgmccaecmpjaaGreat
