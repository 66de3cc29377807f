/-
  Contracts of packages table and arms on patterns of plain bytes: a pattern is compiled.
  Conditions: the bytes are plain ones.
-/
import Derived.Test.YtbhgmccaecmpjaaGreatW12
namespace Go.Proofs.YtbhgmccaecmpjaaGreat
set_option linter.unusedVariables false
set_option linter.unusedSimpArgs false
open Go.RowKit

theorem snoc_ind {α : Type} {P : List α → Prop} (h0 : P []) (h1 : ∀ l a, P l → P (l ++ [a])) (l : List α) : P l := by
  have key : ∀ r : List α, P r.reverse := by
    intro r
    induction r with
    | nil => exact h0
    | cons a r ih => rw [List.reverse_cons]; exact h1 _ _ ih
  have := key l.reverse
  rwa [List.reverse_reverse] at this
/-- Which items have a byte, as bits. -/
def hasF (l : List UInt8) (c : Nat) : Nat × Nat := l.foldl (fun p b => (p.1 + 1, if hasS (oneS b.toNat) c = true then p.2 ||| 2 ^ p.1 else p.2)) (0, 0)
theorem hasF_snoc (l : List UInt8) (b : UInt8) (c : Nat) : hasF (l ++ [b]) c = ((hasF l c).1 + 1, if hasS (oneS b.toNat) c = true then (hasF l c).2 ||| 2 ^ (hasF l c).1 else (hasF l c).2) := by unfold hasF; rw [List.foldl_append]; rfl
theorem hasF_len (l : List UInt8) (c : Nat) : (hasF l c).1 = l.length := by
  induction l using snoc_ind with
  | h0 => rfl
  | h1 l b ih => rw [hasF_snoc, List.length_append, ih]; rfl
theorem hasF_lt (l : List UInt8) (c : Nat) : (hasF l c).2 < 2 ^ l.length := by
  induction l using snoc_ind with
  | h0 => exact Nat.one_pos
  | h1 l b ih =>
    rw [hasF_snoc, List.length_append, hasF_len]
    have h1 : 2 ^ l.length < 2 ^ (l.length + 1) := Nat.pow_lt_pow_right (by decide) (by omega)
    show (if _ then _ else _) < 2 ^ (l.length + 1)
    split
    · exact or_lt (by omega) h1
    · omega
/-- The table of a plain pattern. -/
def tabP (l : List UInt8) : TabT := ⟨l.length, 0, fun c => (hasF l c).2⟩
theorem tabP_ok {l : List UInt8} (h : 0 < l.length ∧ l.length ≤ 60) : (tabP l).ok := ⟨⟨h.1, h.2⟩, Nat.two_pow_pos _, fun c => hasF_lt l c⟩
/-- A table's block, while it is filled. -/
def TabM (w : World) (b n : Nat) (f : Nat → Nat) : Prop := ∃ cs, Blk w b 284 cs ∧ cs.size = 258 ∧ cs[0]? = some (.int .i64 n) ∧ cs[1]? = some (.int .u64 0) ∧ ∀ c, c < 256 → cs[2 + c]? = some (.int .u64 (f c : Nat))
theorem TabM.later {w w' : World} {b n : Nat} {f : Nat → Nat} (h : TabM w b n f) (k : Below w.heap.size w w') : TabM w' b n f := by obtain ⟨cs, hb, r⟩ := h; exact ⟨cs, hb.later k, r⟩
theorem TabM.lt {w : World} {b n : Nat} {f : Nat → Nat} (h : TabM w b n f) : b < w.heap.size := by obtain ⟨cs, hb, r⟩ := h; exact hb.lt
theorem TabM.at_ {w : World} {b n : Nat} {f : Nat → Nat} (h : TabM w b n f) (c : Nat) (hc : c < 256) : ∀ w', Below w.heap.size w w' → w'.cell? ⟨b, 2 + c, none⟩ = some (.int .u64 (f c : Nat)) ∧ ∀ i, w'.frozen? ⟨b, i, none⟩ = false := fun w' hb => by
  obtain ⟨cs, hk, _, _, _, h2⟩ := h
  exact ⟨((hk.later hb).cell _).trans (h2 c hc), fun i => (hk.later hb).frozen i⟩
theorem TabM.set {w : World} {b n : Nat} {f : Nat → Nat} (h : TabM w b n f) (j v : Nat) (hj : j < 256) : TabM (w.setCell ⟨b, 2 + j, none⟩ (.int .u64 v)) b n (fun c => if c = j then v else f c) := by
  obtain ⟨cs, hk, hs, h0, h1, h2⟩ := h
  refine ⟨cs.setIfInBounds (2 + j) (.int .u64 v), hk.set_ (2 + j) _, by simp [hs], ?_, ?_, fun c hc => ?_⟩
  · rw [Array.getElem?_setIfInBounds_ne (by omega)]; exact h0
  · rw [Array.getElem?_setIfInBounds_ne (by omega)]; exact h1
  · by_cases hcj : c = j
    · subst hcj
      have : 2 + c < cs.size := by omega
      simp [this]
    · rw [Array.getElem?_setIfInBounds_ne (by omega)]; show _ = some (Value.int IntKind.u64 (if c = j then v else f c : Nat)); rw [if_neg hcj]; exact h2 c hc
theorem TabM.new (w : World) (n : Nat) : TabM (w.alloc (.cells (Tryz.zeroCells284.setIfInBounds 0 (.int .i64 n)) 284)) w.heap.size n (fun _ => 0) := by
  have e : Tryz.zeroCells284 = (.int .i64 0 :: List.replicate 257 (.int .u64 0)).toArray := by kernel_rfl
  generalize hr : (257 : Nat) = r at e
  have hs : Tryz.zeroCells284.size = 258 := by rw [e]; simp; omega
  refine ⟨_, Blk.new _ _ _, by simp [hs], by simp [hs], ?_, fun c hc => ?_⟩
  · rw [Array.getElem?_setIfInBounds_ne (by omega), e]
    obtain ⟨q, rfl⟩ : ∃ q, r = q + 1 := ⟨r - 1, by omega⟩
    simp [List.replicate_succ]
  · rw [Array.getElem?_setIfInBounds_ne (by omega), e]
    have h2 : 2 + c = (1 + c) + 1 := by omega
    rw [h2]
    simp [List.getElem?_replicate]
    omega
theorem TabM.done {w : World} {b : Nat} {l : List UInt8} {f : Nat → Nat} (h : TabM w b l.length f) (hf : ∀ c, c < 256 → f c = (hasF l c).2) (hl : 0 < l.length ∧ l.length ≤ 60) : TabAt w b (tabP l) := by
  obtain ⟨cs, hk, hs, h0, h1, h2⟩ := h
  exact ⟨⟨cs, hk, h0, h1, fun c hc => by rw [h2 c hc, hf c hc]; rfl⟩, tabP_ok hl⟩
theorem TabM.ext {w : World} {b n : Nat} {f g : Nat → Nat} (h : TabM w b n f) (hf : ∀ c, c < 256 → f c = g c) : TabM w b n g := by
  obtain ⟨cs, hk, hs, h0, h1, h2⟩ := h
  exact ⟨cs, hk, hs, h0, h1, fun c hc => by rw [← hf c hc]; exact h2 c hc⟩

/-- k items are laid in, and of the next one the bytes below j. -/
def fillF (l : List UInt8) (k j c : Nat) : Nat := if c < j then (hasF (l.take (k + 1)) c).2 else (hasF (l.take k) c).2
set_option maxRecDepth 100000 in
set_option maxHeartbeats 8000000 in
theorem taCompile (w : World) (B : Nat) (ao : Option Addr) (cap : Nat) (l : List UInt8) (h : Its w B ao cap l) (hl : 0 < l.length ∧ l.length ≤ 60) : Calls Tryz.prog 189 #[.slice ao l.length cap] w fun e w' => ∃ b, e = .returned (.tuple #[.pointer (some ⟨b, 0, none⟩), .int .i64 0]) ∧ TabAt w' b (tabP l) ∧ w.heap.size ≤ b ∧ Below w.heap.size w w' := by
  have FG := Lib.hid (glGood w B ao cap l h hl.2)
  have FE : Hid (∀ w', Below w.heap.size w w' → Calls Tryz.prog 199 #[.slice ao l.length cap] w' fun e w'' => e = .returned (.bool false) ∧ Below w'.heap.size w' w'') := Lib.hid fun w' hb => laEmpty w' B ao cap l (orow_later h hb) hl.1
  have HH := Lib.hid h
  have HL := Lib.hid hl
  have hl60 := hl.2
  clear h hl
  go_enter Tryz.func189, Tryz.ntmps189
  go_wp2_with fail
  refine FG.out.mono ?_; rintro e w1 ⟨rfl, b1⟩
  go_wp2_with fail
  refine (FE.out w1 b1).mono ?_; rintro e w2 ⟨rfl, b2⟩
  obtain ⟨b, hb⟩ : ∃ b, w2.heap.size = b := ⟨_, rfl⟩
  obtain ⟨w3, hw3⟩ : ∃ w3, w3 = w2.alloc (.cells (Tryz.zeroCells284.setIfInBounds 0 (.int .i64 l.length)) 284) := ⟨_, rfl⟩
  have b3 : Below w2.heap.size w2 w3 := by rw [hw3]; exact Below.alloc (Below.refl _ _) (Nat.le_refl _) _
  have M3 : TabM w3 b l.length (fun _ => 0) := by rw [hw3, ← hb]; exact TabM.new _ _
  have M3' := Lib.hid (M3.ext (g := fun c => (hasF (l.take 0) c).2) (fun c _ => rfl))
  have hlo : w.heap.size ≤ b := by have := (b1.up b2).size; omega
  have B3 := Lib.hid ((b1.up b2).up b3)
  have HW3 := Lib.hid hw3
  have HBB := Lib.hid hb
  have HLO := Lib.hid hlo
  clear b1 b2 b3 M3 hw3 hb hlo
  go_upto_region 6 with fail
  rw [← HW3.out, HBB.out]
  have hr := Below.refl w3.heap.size w3
  go_wp2_with fail
  go_loopw [22] (fun iv wr => ∃ k : Nat, iv = .int .i64 k ∧ k ≤ l.length ∧ Hid (TabM wr b l.length (fun c => (hasF (l.take k) c).2)) ∧ Hid (Below w.heap.size w wr)) (fun iv _ => l.length - (intOf iv).toNat)
  case atStart => exact ⟨0, rfl, by omega, M3', B3⟩
  case round =>
    clear M3' B3 hr
    obtain ⟨k, rfl, hk, hM, hB⟩ := hrel
    by_cases hlt : k < l.length
    · have e1 : (k : Int) < (l.length : Int) := by omega
      have hkl := hlt
      obtain ⟨g, rfl, hg, hc⟩ := its_cell (orow_later HH.out hB.out) k hkl
      have hcc := hc wr (Below.refl _ _)
      have hp : 2 ^ k < 2 ^ 64 := Nat.pow_lt_pow_right (by decide) (by omega)
      have e2 : IntKind.u64.wrap (1 * 2 ^ k) = ((2 ^ k : Nat) : Int) := by rw [Int.one_mul]; have := wrap64 (2 ^ k) hp; push_cast at this ⊢; exact this
      have e2' : IntKind.u64.wrap (2 ^ k) = ((2 ^ k : Nat) : Int) := by have := wrap64 (2 ^ k) hp; push_cast at this ⊢; exact this
      have e3 : IntKind.u64.wrap (k : Int) = (k : Int) := wrap64 k (by omega)
      have F01 : ∀ c, (hasF (l.take (k + 1)) c).2 = if hasS (oneS l[k].toNat) c = true then (hasF (l.take k) c).2 ||| 2 ^ k else (hasF (l.take k) c).2 := fun c => by
        rw [List.take_succ_eq_append_getElem hkl, hasF_snoc, hasF_len, List.length_take, Nat.min_eq_left (by omega)]
      have F0 : ∀ c, (hasF (l.take k) c).2 < 2 ^ 60 := fun c => Nat.lt_of_lt_of_le (hasF_lt _ _) (Nat.pow_le_pow_right (by decide) (by rw [List.length_take]; omega))
      have hf : fillF l k 0 = fun c => (hasF (l.take k) c).2 := by funext c; unfold fillF; rw [if_neg (by omega)]
      have FH : Hid (∀ c : Nat, c < 256 → ∀ w, Calls Tryz.prog 200 #[.agg #[.int .u64 (oneS l[k].toNat).w0, .int .u64 (oneS l[k].toNat).w1, .int .u64 (oneS l[k].toNat).w2, .int .u64 (oneS l[k].toNat).w3], .int .u8 c] w fun e w' => e = .returned (.bool (hasS (oneS l[k].toNat) c)) ∧ Below w.heap.size w w') := Lib.hid fun c hc w => clHas (oneS l[k].toNat) (oneS_ok l[k].toNat) c hc w
      rw [← hf] at hM
      have HF01 := Lib.hid F01
      have HF0 := Lib.hid F0
      clear hc F01 F0 hf
      generalize oneS l[k].toNat = S at *
      obtain ⟨bit, hbit⟩ : ∃ bit, 2 ^ k = bit := ⟨_, rfl⟩
      rw [hbit] at e2 e2' hp HF01
      obtain ⟨q, hq⟩ : ∃ q, wr.heap.size = q := ⟨_, rfl⟩
      obtain ⟨w4, hw4⟩ : ∃ w4, w4 = wr.alloc (.cells #[.bool false, .int .u64 S.w0, .int .u64 S.w1, .int .u64 S.w2, .int .u64 S.w3] 278) := ⟨_, rfl⟩
      have b4 : Below wr.heap.size wr w4 := by rw [hw4]; exact Below.alloc (Below.refl _ _) (Nat.le_refl _) _
      have K4 : Blk w4 q 278 #[.bool false, .int .u64 S.w0, .int .u64 S.w1, .int .u64 S.w2, .int .u64 S.w3] := by rw [hw4, ← hq]; exact Blk.new _ _ _
      have M4 := hM.out.later b4
      have hqb : q ≠ b := by have := hM.out.lt; omega
      have HQB := Lib.hid hqb
      have B4 := hB.out.up b4
      have HW4 := Lib.hid hw4
      have HQ := Lib.hid hq
      have KK := Lib.hid K4
      have MM := Lib.hid M4
      have BB := Lib.hid B4
      have hr := Below.refl wr.heap.size wr
      have dq := K4.at5
      clear hM hB b4 hw4 hq K4 M4 B4 hbit hqb
      go_upto_region 9 with fail
      rw [← HW4.out, HQ.out]
      clear hr hcc
      have hr := Below.refl w4.heap.size w4
      go_wp2_with fail
      clear dq hr
      go_loopw [40] (fun jv wx => ∃ j : Nat, jv = .int .i64 j ∧ j ≤ 256 ∧ Hid (TabM wx b l.length (fillF l k j)) ∧ Hid (Blk wx q 278 #[.bool false, .int .u64 S.w0, .int .u64 S.w1, .int .u64 S.w2, .int .u64 S.w3]) ∧ Hid (Below w.heap.size w wx)) (fun jv _ => 256 - (intOf jv).toNat)
      case atStart => exact ⟨0, rfl, by omega, MM, KK, BB⟩
      case round =>
        clear MM KK BB
        obtain ⟨j, rfl, hj, hM, hK, hB⟩ := hrel
        by_cases hjl : j < 256
        · have f1 : (j : Int) < 256 := by omega
          have f2 : IntKind.u8.wrap (j : Int) = (j : Int) := IntWalk.u8_in _ (by omega)
          have dq := hK.out.at5
          have hr := Below.refl wr.heap.size wr
          have FHj := Lib.hid (FH.out j hjl)
          have old : fillF l k j j = (hasF (l.take k) j).2 := by unfold fillF; rw [if_neg (by omega)]
          have hlt0 := HF0.out j
          have hnew := HF01.out j
          have s3 : IntKind.i64.wrap ((j : Int) + 1) = ((j + 1 : Nat) : Int) := by rw [IntWalk.i64_in _ (by omega)]; omega
          have hd := hM.out.at_ j hjl
          rw [old] at hd
          have nxt : ∀ c, c < 256 → (fillF l k (j + 1) c = if c = j then (hasF (l.take (k + 1)) j).2 else fillF l k j c) := fun c hc => by
            unfold fillF
            by_cases hcj : c = j
            · subst hcj; rw [if_pos (by omega), if_pos rfl]
            · rw [if_neg hcj]
              by_cases hlt2 : c < j
              · rw [if_pos hlt2, if_pos (by omega)]
              · rw [if_neg hlt2, if_neg (by omega)]
          have NX := Lib.hid nxt
          clear old nxt
          cases hh : hasS S j
          · rw [hh] at hnew FHj
            simp only [Bool.false_eq_true, if_false] at hnew
            have HN := Lib.hid hnew
            clear hnew hlt0 hd
            go_wp2_with fail
            clear hr dq
            refine (FHj.out _).mono ?_; rintro e w5 ⟨rfl, b5⟩
            go_wp2_with fail
            go_round
            case rel => exact ⟨j + 1, by go_num, by omega, Lib.hid ((hM.out.later b5).ext (fun c hc => by rw [NX.out c hc, HN.out]; split <;> rename_i hcj; (subst hcj; unfold fillF; rw [if_neg (by omega)]); rfl)), Lib.hid (hK.out.later b5), Lib.hid (hB.out.up b5)⟩
            case measure => simp [intOf]; omega
          · rw [hh] at hnew FHj
            simp only [if_true] at hnew
            obtain ⟨o, ho⟩ : ∃ o, (hasF (l.take k) j).2 = o := ⟨_, rfl⟩
            obtain ⟨z, hz⟩ : ∃ z, (hasF (l.take (k + 1)) j).2 = z := ⟨_, rfl⟩
            rw [ho] at hlt0 hnew hd
            have eor := bor o bit (by omega) hp
            rw [← hnew, hz] at eor
            rw [hz] at NX
            clear hnew ho hz
            have f3 : (j : Int) < 256 := by omega
            go_wp2_with fail
            clear hr dq
            refine (FHj.out _).mono ?_; rintro e w5 ⟨rfl, b5⟩
            have hd5 := fun w' (hb : Below w5.heap.size w5 w') => hd w' (b5.up hb)
            have hr := Below.refl w5.heap.size w5
            have M5 := hM.out.later b5
            have K5 := hK.out.later b5
            have B5 := hB.out.up b5
            clear hd
            go_upto_region 16 with fail
            refine wp_region_later_tail w5.heap.size 11 (by kernel_rfl) (by kernel_rfl) ?_
            simp only [List.take_succ_cons, List.take_zero, List.drop_succ_cons, List.drop_zero]
            have hu : ∀ u : Later w5.heap.size w5, Below w5.heap.size w5 u.world := Later.below
            repeat (go_big_quiet_step ((fail)))
            refine wpQuiet_nil ?_
            intro w6 b6
            have hd6 := fun w' (hb : Below w6.heap.size w6 w') => hd5 w' (b6.up hb)
            have M6 := M5.later b6
            have K6 := K5.later b6
            have B6 := B5.up b6
            clear hd5 hr hu M5 K5
            have hr := Below.refl w6.heap.size w6
            go_wp2_with fail
            go_round
            case rel => exact ⟨j + 1, by go_num, by omega, Lib.hid ((M6.set j z hjl).ext (fun c hc => (NX.out c hc).symm)), Lib.hid (K6.far (p := ⟨b, 2 + j, none⟩) HQB.out _), Lib.hid (B6.setCell (by have := HLO.out; omega) _)⟩
            case measure => simp [intOf]; omega
        · have f1 : ¬ (j : Int) < 256 := by omega
          have hj256 : j = 256 := by omega
          go_wp2_with fail
          go_round
          case rel => exact ⟨k + 1, by go_num, by omega, Lib.hid (hM.out.ext (fun c hc => by unfold fillF; rw [if_pos (by omega)])), hB⟩
          case measure => simp [intOf]; omega
    · have e1 : ¬ (k : Int) < (l.length : Int) := by omega
      have hkn : k = l.length := by omega
      go_wp2_with fail
      go_ret2
      refine ⟨b, rfl, hM.out.done (fun c hc => ?_) HL.out, HLO.out, hB.out⟩
      rw [hkn, List.take_length]
end Go.Proofs.YtbhgmccaecmpjaaGreat
