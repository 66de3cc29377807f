/-
  The rounds of a text, as package world reads them.
  Conditions: a text of at most 100000 bytes; the error of range and the greatest length stand in their variables.
-/
import Derived.Test.YtmnkekepccdlcaaGreatDoorWorldG
import Derived.Test.YtmnkekepccdlcaaGreatDoorWgG
import Derived.Test.YtmnkekepccdlcaaGreatDoorWgH
namespace Go.Proofs.YtmnkekepccdlcaaGreatDoor
set_option linter.unusedVariables false
set_option linter.unusedSimpArgs false
open Go.RowKit

theorem oneW_text {t x : List UInt8} {q : Bool} (h : (oneW t).1 = some (x, q)) : x.length ≤ t.length := by
  unfold oneW at h
  split at h
  · cases hr : (readT t).1 with
    | none => rw [hr] at h; cases h
    | some l =>
      rw [hr] at h
      simp only [Option.map_some, Option.some.injEq, Prod.mk.injEq] at h
      rw [← h.1]
      exact readT_len2 hr
  · split at h
    · cases h
    · simp only [Option.some.injEq, Prod.mk.injEq] at h
      rw [← h.1]
      exact List.length_take_le' _ _
theorem wordsF_in : ∀ (f : Nat) (t : List UInt8) (p : Nat) (l : List Wd), (wordsF f t p).1 = some l → l.length ≤ t.length + 1 ∧ ∀ x ∈ l, x.place ≤ p + t.length ∧ x.text.length ≤ t.length
  | 0, _, _, _, h => by cases h
  | f + 1, t, p, l, h => by
    unfold wordsF at h
    cases hb : (oneW t).1 with
    | none => rw [hb] at h; cases h
    | some x =>
      obtain ⟨x, q⟩ := x
      rw [hb] at h
      have hx := oneW_text hb
      simp only at h
      split at h
      · simp only [Option.some.injEq] at h
        subst h
        refine ⟨by simp, fun y hy => ?_⟩
        simp at hy; subst hy
        exact ⟨Nat.le_add_right _ _, hx⟩
      · rename_i hne
        split at h
        · obtain ⟨l', hl', rfl⟩ := Option.map_eq_some_iff.1 h
          obtain ⟨i1, i2⟩ := wordsF_in f _ _ l' hl'
          have hlt : (oneW t).2.1 < t.length := by
            rcases Nat.lt_or_ge (oneW t).2.1 t.length with h1 | h1
            · exact h1
            · exact absurd (List.drop_of_length_le h1) hne
          rw [List.length_drop] at i1 i2
          refine ⟨by rw [List.length_cons]; omega, fun y hy => ?_⟩
          rcases List.mem_cons.1 hy with rfl | hy
          · exact ⟨Nat.le_add_right _ _, hx⟩
          · have := i2 y hy; omega
        · cases h
theorem oneW_code (t : List UInt8) : ((oneW t).1 = none ↔ (oneW t).2.2 ≠ 0) := by
  unfold oneW
  split
  · cases hr : (readT t).1 with
    | none => simp; split <;> decide
    | some l => simp
  · split
    · simp; split <;> decide
    · simp
theorem wordsF_code : ∀ (f : Nat) (t : List UInt8) (p : Nat), t.length < f → ((wordsF f t p).1 = none ↔ (wordsF f t p).2.2 ≠ 0)
  | 0, _, _, h => by omega
  | f + 1, t, p, hf => by
    have h1 := oneW_code t
    unfold wordsF
    cases hb : (oneW t).1 with
    | none =>
      rw [hb] at h1
      simp only [true_iff] at h1 ⊢
      exact h1
    | some x =>
      obtain ⟨x, q⟩ := x
      simp only
      split
      · simp
      · rename_i hne
        split
        · have h0 : t.length ≠ 0 := by
            intro e
            exact hne (by rw [List.eq_nil_of_length_eq_zero e]; simp)
          have ih := wordsF_code f (t.drop ((oneW t).2.1 + 1)) (p + (oneW t).2.1 + 1) (by rw [List.length_drop]; omega)
          simp only [Option.map_eq_none_iff]
          exact ih
        · simp
theorem wordsF_place : ∀ (f : Nat) (t : List UInt8) (p : Nat), (wordsF f t p).2.1 ≤ p + t.length
  | 0, _, _ => Nat.zero_le _
  | f + 1, t, p => by
    have h1 := oneW_le t
    unfold wordsF
    cases hb : (oneW t).1 with
    | none => simp only; omega
    | some x =>
      obtain ⟨x, q⟩ := x
      simp only
      split
      · exact Nat.zero_le _
      · rename_i hne
        have hlt : (oneW t).2.1 < t.length := by
          rcases Nat.lt_or_ge (oneW t).2.1 t.length with h1 | h1
          · exact h1
          · exact absurd (List.drop_of_length_le h1) hne
        split
        · have ih := wordsF_place f (t.drop ((oneW t).2.1 + 1)) (p + (oneW t).2.1 + 1)
          rw [List.length_drop] at ih
          simp only
          omega
        · simp only; omega
/-- The words of a line that is not empty: some, and none long; or what is wrong. -/
theorem words_facts {t : List UInt8} (ht : t ≠ []) (hl : t.length ≤ 50000) : (∃ W, wordsT t = (some W, (wordsT t).2.1, 0) ∧ (wordsT t).2.1 ≤ 200000 ∧ W ≠ [] ∧ W.length ≤ 100000 ∧ ∀ x ∈ W, x.place ≤ 100000 ∧ x.text.length ≤ 100000) ∨ (∃ c e, wordsT t = (none, c, e) ∧ e ≠ 0 ∧ c ≤ 200000) := by
  unfold wordsT
  split
  · exact .inr ⟨1200, 4, rfl, by decide, by decide⟩
  · have hc := wordsF_code (t.length + 1) t 0 (by omega)
    unfold wordsL
    cases hw : wordsF (t.length + 1) t 0 with
    | mk a b =>
      obtain ⟨c, e⟩ := b
      rw [hw] at hc
      cases a with
      | none =>
        have he : e ≠ 0 := hc.1 rfl
        refine .inr ⟨c, e, rfl, he, ?_⟩
        have := wordsF_place (t.length + 1) t 0
        rw [hw] at this
        simp only at this
        omega
      | some W =>
        have he : e = 0 := by
          by_cases h : e = 0
          · exact h
          · have := hc.2 h; cases this
        subst he
        have h1 := wordsF_in (t.length + 1) t 0 W (by rw [hw])
        have h2 := wordsF_good (t.length + 1) t 0 W (by rw [hw])
        have h3 := wordsF_place (t.length + 1) t 0
        rw [hw] at h3
        simp only at h3
        exact .inl ⟨W, rfl, by show c ≤ 200000; omega, h2.1, by omega, fun x hx => by have := h1.2 x hx; omega⟩

theorem lines_room : ∀ t : List UInt8, (linesL t).length ≤ t.length + 1 ∧ ∀ x ∈ linesL t, x.length ≤ t.length
  | [] => by simp [linesL]
  | c :: t => by
    obtain ⟨h1, h2⟩ := lines_room t
    by_cases hc : c = 10
    · have e : linesL (c :: t) = [] :: linesL t := by show (if c = 10 then [] :: linesL t else match linesL t with | [] => [[c]] | l :: r => (c :: l) :: r) = _; rw [if_pos hc]
      rw [e]
      refine ⟨by simp only [List.length_cons]; omega, fun x hx => ?_⟩
      rcases List.mem_cons.1 hx with rfl | hx
      · simp
      · have := h2 x hx; simp only [List.length_cons]; omega
    · cases hl : linesL t with
      | nil => exact absurd hl (linesL_ne t)
      | cons l r =>
        have e : linesL (c :: t) = (c :: l) :: r := by show (if c = 10 then [] :: linesL t else match linesL t with | [] => [[c]] | l :: r => (c :: l) :: r) = _; rw [if_neg hc, hl]
        rw [e]
        rw [hl] at h1 h2
        refine ⟨by simp only [List.length_cons] at h1 ⊢; omega, fun x hx => ?_⟩
        rcases List.mem_cons.1 hx with rfl | hx
        · have := h2 l (by simp); simp only [List.length_cons]; omega
        · have := h2 x (by simp [hx]); simp only [List.length_cons]; omega
theorem idle_same (l : List UInt8) : idleB l = idleL l := by cases l <;> rfl
/-- What reading rounds gives. -/
def RdPost (w : World) (r : Except (Nat × Nat × Int) (List Rd)) (e : Ending) (w' : World) : Prop := match r with
  | .ok rs => Sml 100000 rs ∧ ∃ ao cap l, l.map Prod.snd = rs ∧ e = .returned (.tuple #[.slice ao l.length cap, .agg #[.int .i64 0, .int .i64 0], .int .i64 0]) ∧ Rnds w.heap.size w' ao cap l ∧ Below w.heap.size w w'
  | .error (k, c, x) => x ≠ 0 ∧ e = .returned (.tuple #[.slice none 0 0, .agg #[.int .i64 (k : Nat), .int .i64 (c : Nat)], .int .i64 x]) ∧ Below w.heap.size w w'
theorem rd_idle {k : Nat} {rs : List Rd} {s : List UInt8} {L : List (List UInt8)} (h : idleL s = true) : readF k rs (s :: L) = readF (k + 1) rs L := if_pos h
theorem rd_ok {k : Nat} {rs rs' : List Rd} {s : List UInt8} {L : List (List UInt8)} (h : idleL s = false) (h2 : lineR rs s = .ok rs') : readF k rs (s :: L) = readF (k + 1) rs' L := by
  show (if idleL s = true then readF (k + 1) rs L else match lineR rs s with | .ok rs' => readF (k + 1) rs' L | .error (c, e) => .error (k + 1, c + 1, e)) = _
  rw [h, if_neg (by simp), h2]
theorem rd_err {k c : Nat} {e : Int} {rs : List Rd} {s : List UInt8} {L : List (List UInt8)} (h : idleL s = false) (h2 : lineR rs s = .error (c, e)) : readF k rs (s :: L) = .error (k + 1, c + 1, e) := by
  show (if idleL s = true then readF (k + 1) rs L else match lineR rs s with | .ok rs' => readF (k + 1) rs' L | .error (c, e) => .error (k + 1, c + 1, e)) = _
  rw [h, if_neg (by simp), h2]
theorem os_keep {B cap : Nat} {w w' : World} {ao : Option Addr} {l : List (List UInt8)} (h : OS B w ao cap l) (hk : KeepTy 9 w w') : OS B w' ao cap l :=
  orow_same h fun g hg => by
    obtain ⟨cur, hc⟩ := orow_type h hg
    rw [hk g cur hc, hc]
theorem range_below {B : Nat} {w w' : World} (h : RangeV w) (hb : Below B w w') (hG : 5 < B) : RangeV w' := by
  obtain ⟨t, p, e⟩ := h
  exact ⟨t, p, (hb.cell (p := ⟨5, 0, none⟩) hG).trans e⟩
theorem Rdr.words {w : World} {b : Nat} {v u : Value} {len : Nat} {s : Rs} (h : Rdr w b v u len s) (u' : Value) (n : Nat) : Rdr ((w.setCell ⟨b, 1, none⟩ u').setCell ⟨b, 2, none⟩ (.int .i64 (n : Nat))) b v u' n s := by
  have := Blk.set_ (Blk.set_ h 1 u') 2 (.int .i64 (n : Nat))
  simpa [Rdr] using this

set_option maxHeartbeats 8000000 in
set_option maxRecDepth 100000 in
theorem worldRead (s : ByteArray) (w : World) (hs : s.size ≤ 50000) (he : EnvW w) : Calls Tryz.prog 27 #[.string s] w (RdPost w (readW s.data.toList)) := by
  have hq : readW s.data.toList = if 40000 < s.size then .error (0, 0, 4) else readF 0 [] (linesL s.data.toList) := rfl
  rw [hq]
  clear hq
  obtain ⟨w0, hw0⟩ : ∃ w0, w.alloc (.cells #[.int .i64 0, .int .i64 0] 49) = w0 := ⟨_, rfl⟩
  have k0 : Blk w0 w.heap.size 49 #[.int .i64 0, .int .i64 0] := by rw [← hw0]; exact Blk.new _ _ _
  have b0 : Below w.heap.size w w0 := by rw [← hw0]; exact (Below.refl _ _).alloc (Nat.le_refl _) _
  by_cases hbig : 40000 < s.size
  · rw [if_pos hbig]
    have e1 : (40000 : Int) < (s.size : Int) := by omega
    have HW0 := Lib.hid hw0
    clear hw0
    have d0 := k0.at2
    have hr := Below.refl w0.heap.size w0
    go_enter Tryz.func27, Tryz.ntmps27
    go_upto_region 1 with fail
    rw [HW0.out]
    go_wp2_with fail
    have kk : Blk ((w0.setCell ⟨w.heap.size, 0, none⟩ (.int .i64 0)).setCell ⟨w.heap.size, 1, none⟩ (.int .i64 0)) w.heap.size 49 #[.int .i64 0, .int .i64 0] := by
      have := (k0.set_ 0 (.int .i64 0)).set_ 1 (.int .i64 0)
      simpa using this
    exact bodyPost_ret (v := .tuple #[.slice none 0 0, .agg #[.int .i64 0, .int .i64 0], .int .i64 4]) (by simp [results, Tryz.results27, go_sem, kk.cell]) rfl (by unfold RdPost; exact ⟨by decide, rfl, (b0.setCell (p := ⟨w.heap.size, 0, none⟩) (Nat.le_refl _) _).setCell (p := ⟨w.heap.size, 1, none⟩) (Nat.le_refl _) _⟩)
  · rw [if_neg hbig]
    have e1 : ¬ (40000 : Int) < (s.size : Int) := by omega
    obtain ⟨w1, hw1⟩ : ∃ w1, w0.alloc (.cells #[.slice none 0 0, .slice none 0 0, .int .i64 0, .int .i64 0, .int .i64 0, .int .i64 0] 86) = w1 := ⟨_, rfl⟩
    have hq0 : w.heap.size < w0.heap.size := k0.lt
    have h1 : Rdr w1 w0.heap.size (.slice none 0 0) (.slice none 0 0) 0 ⟨0, 0, 0⟩ := by rw [← hw1]; exact Blk.new _ _ _
    have b1 : Below w0.heap.size w0 w1 := by rw [← hw1]; exact (Below.refl _ _).alloc (Nat.le_refl _) _
    obtain ⟨m, hm⟩ := he.maxl
    have F1 := Lib.hid (xLines s m w1 (by omega) (cellW_later (cellW_later hm b0) b1))
    have hG : 5 < w0.heap.size := by
      obtain ⟨t, p, e⟩ := he.range
      have := block_lt e
      simp only at this
      omega
    have r1 : RangeV w1 := range_later (range_later he.range b0) b1
    have k1 := k0.later b1
    have hws : w0.heap.size ≤ w1.heap.size := Nat.le_of_lt h1.lt
    obtain ⟨hll, hls⟩ := lines_room s.data.toList
    have hsl : s.data.toList.length = s.size := rfl
    rw [hsl] at hll hls
    have HLL := Lib.hid hls
    have hLL : (linesL s.data.toList).length ≤ 50001 := by omega
    generalize linesL s.data.toList = L at *
    have HB0 := Lib.hid (b0.up b1)
    have HW0 := Lib.hid hw0
    have HW1 := Lib.hid hw1
    clear hw0 hw1 he hm hls hsl b0 b1 k0
    generalize hbq : w0.heap.size = b at *
    generalize hqq : w.heap.size = q at *
    have HQQ := Lib.hid hqq
    have HBQ := Lib.hid hbq
    clear hbq hqq
    go_enter Tryz.func27, Tryz.ntmps27
    go_upto_region 1 with fail
    rw [HW0.out, HQQ.out]
    go_upto_region 4 with fail
    rw [HW1.out, HBQ.out]
    go_wp2_with fail
    refine F1.out.mono ?_; rintro e w2 ⟨lo, lcap, rfl, hos, b2⟩
    have T2 := Lib.hid (Stp.refl b w2)
    have H2 := Lib.hid (Blk.later h1 b2)
    have S2 : Hid (Stt b w2 none 0 []) := Lib.hid (.inl ⟨rfl, Rnds.nil _ _⟩)
    have OS2 := Lib.hid hos
    have K1 := Lib.hid (k1.later b2)
    have R1 := Lib.hid (range_later r1 b2)
    have HB0 := Lib.hid (HB0.out.up b2 (Nat.le_of_eq HQQ.out.symm))
    have hrd0 : Hid (readF 0 [] L = readF 0 (([] : List (Hd × Rd)).map Prod.snd) (L.drop 0)) := Lib.hid rfl
    have hsm0 : Hid (Sml 0 (([] : List (Hd × Rd)).map Prod.snd)) := Lib.hid ⟨Nat.le_refl _, fun _ h => by cases h⟩
    clear F1 h1 b2 hos k1 r1
    go_wp2_with fail
    go_loopw [20] (fun iv wr => ∃ (k : Nat) (ao : Option Addr) (cap : Nat) (l : List (Hd × Rd)) (u : Value) (len nx cl : Nat), iv = .int .i64 k ∧ k ≤ L.length ∧ Hid (Rdr wr b (.slice ao l.length cap) u len ⟨nx, cl, 0⟩) ∧ Hid (Stt b wr ao cap l) ∧ Hid (readF 0 [] L = readF k (l.map Prod.snd) (L.drop k)) ∧ Hid (Sml k (l.map Prod.snd)) ∧ Hid (Stp b w2 wr)) (fun iv _ => L.length - (intOf iv).toNat)
    case atStart => exact ⟨0, none, 0, [], _, _, _, _, rfl, Nat.zero_le _, H2, S2, hrd0, hsm0, T2⟩
    case round =>
      obtain ⟨k, ao, cap, l, u, len, nx, cl, rfl, hk, hR, hS, hI, hM, hT⟩ := hrel
      have hO := Lib.hid (os_keep OS2.out hT.out.keep)
      clear H2 S2 hrd0 hsm0 T2
      have e0 : (0 : Int) ≤ (k : Int) := by omega
      have hk5 : k ≤ 50001 := by omega
      by_cases hlt : k < L.length
      · have e2 : (k : Int) < (L.length : Int) := by omega
        have s1 : IntKind.i64.wrap ((k : Int) + 1) = ((k + 1 : Nat) : Int) := by rw [IntWalk.i64_in _ (by omega)]; omega
        have hdr : L.drop k = L[k] :: L.drop (k + 1) := List.drop_eq_getElem_cons hlt
        have hxl := HLL.out L[k] (List.getElem_mem hlt)
        obtain ⟨gl, egl, hgl, dl⟩ := os_at hO.out k hlt
        have hI2 := hI.out
        rw [hdr] at hI2
        generalize L[k] = x at *
        have HI := Lib.hid hI2
        subst egl
        clear hdr hI2 hI
        have hr := Below.refl wr.heap.size wr
        have kq := K1.out.below hT.out.bel hq0
        have d0 := hR.out.at6
        have FI := xIdle (bt x) wr
        have et : (bt x).data.toList = x := rfl
        rw [et, idle_same] at FI
        cases hid : idleL x
        · rw [hid] at FI
          have FI := Lib.hid FI
          have hx0 : x ≠ [] := fun e => by rw [e] at hid; cases hid
          have FW := xWords (bt x) (by show x.length ≤ _; omega) wr
          rw [et] at FW
          rcases words_facts hx0 (by omega) with ⟨W, hw, hcc, hW0, hW1, hW2⟩ | ⟨c, er, hw, he0, hc⟩
          · rw [hw] at FW
            have FW := Lib.hid FW
            clear hx0 et
            go_wp2_with fail
            refine FI.out.mono ?_; rintro e w3 ⟨rfl, rfl⟩
            go_wp2_with fail
            refine FW.out.mono ?_; rintro e w5 ⟨wo, wcap, he5, how, b5⟩
            simp only [Option.getD_some] at he5 how
            subst he5
            have t5 := hT.out.trans (Stp.later b5 (Nat.le_of_lt hR.out.lt))
            have h5 := Blk.later hR.out b5
            have S5 := hS.out.later b5
            have W5 : Lin wr.heap.size w5 wo wcap W x.length := ⟨how, by omega, hW1, hW2⟩
            clear d0 hr dl hgl how FI FW kq
            have d0 := h5.at6
            have hr := Below.refl w5.heap.size w5
            generalize (wordsT x).2.1 = c at *
            go_upto_region 10 with fail
            obtain ⟨w6, hw6⟩ : ∃ w6, (w5.setCell ⟨b, 1, none⟩ (.slice wo W.length wcap)).setCell ⟨b, 2, none⟩ (.int .i64 (x.length : Nat)) = w6 := ⟨_, rfl⟩
            have h6 : Rdr w6 b (.slice ao l.length cap) (.slice wo W.length wcap) x.length ⟨nx, cl, 0⟩ := by rw [← hw6]; exact Rdr.words h5 _ _
            have g6 : w5.grownBy w6 (some b) := by rw [← hw6]; exact only_setCell (p := ⟨b, 2, none⟩) (only_setCell (p := ⟨b, 1, none⟩) (only_below (Below.refl _ _) _) (.inl rfl) _) (.inl rfl) _
            have t6 := t5.trans (Stp.reader h5 g6 (Nat.le_refl _))
            have S6 := S5.off h5 g6
            have W6 := W5.grown h5 g6
            rw [hw6]
            clear hw6 d0 hr h5 g6 t5 S5 W5
            go_wp2_with fail
            refine (rFail b x.length c _ _ ⟨nx, cl, 0⟩ 0 w6 h6 (by omega)).mono ?_; rintro e w7 ⟨rfl, h7, g7⟩
            have hf : failS ⟨nx, cl, 0⟩ c 0 = ⟨nx, cl, 0⟩ := by unfold failS; rw [if_neg (fun e => e.2 rfl)]
            rw [hf] at h7
            have t7 := t6.trans (Stp.reader h6 g7 (Nat.le_refl _))
            have S7 := S6.off h6 g7
            have W7 := W6.grown h6 g7
            have r7 := range_below R1.out t7.bel hG
            clear hf h6 t6 g7 S6 W6
            have F8 := Lib.hid (rSays W wo ao wcap b wr.heap.size b x.length nx cl cap k hW0 l w7 h7 S7 W7 (Nat.le_refl _) hG hM.out (by omega) r7)
            have hlr : lineR (l.map Prod.snd) x = sayT (l.map Prod.snd) W x.length := by unfold lineR; rw [hw]
            go_wp2_with fail
            refine F8.out.mono ?_; rintro e w8 ⟨rfl, t8', hP⟩
            have t8 := t7.trans t8'
            have k8 := K1.out.below t8.bel hq0
            cases hX8 : sayT (l.map Prod.snd) W x.length with
            | error p =>
              obtain ⟨c8, e8⟩ := p
              rw [hX8] at hP hlr
              obtain ⟨ne8, v8, nx8, h8⟩ := hP
              have HE := Lib.hid (rd_err (k := k) (rs := l.map Prod.snd) (L := L.drop (k + 1)) hid hlr)
              have heb := ne_b ne8
              clear F8 h7 S7 W7 r7 t7 t8' hX8 hlr hid hw hW0 hW1 hW2
              have d0 := h8.at6
              have dq := k8.at2
              have hr := Below.refl w8.heap.size w8
              have cw : IntKind.i64.wrap ((k : Int) + 1) = ((k + 1 : Nat) : Int) := s1
              go_upto_region 14 with fail
              go_region
              all_goals (
                go_wp2_with fail
                have kk : Blk ((w8.setCell ⟨q, 0, none⟩ (.int .i64 ((k : Int) + 1))).setCell ⟨q, 1, none⟩ (.int .i64 ((c8 : Int) + 1))).drew q 49 #[.int .i64 ((k : Int) + 1), .int .i64 ((c8 : Int) + 1)] := by
                  have := Blk.drew ((k8.set_ 0 (.int .i64 ((k : Int) + 1))).set_ 1 (.int .i64 ((c8 : Int) + 1)))
                  simpa using this
                have bz : Below w.heap.size w ((w8.setCell ⟨q, 0, none⟩ (.int .i64 ((k : Int) + 1))).setCell ⟨q, 1, none⟩ (.int .i64 ((c8 : Int) + 1))).drew := by
                  rw [HQQ.out]
                  exact (((HB0.out.trans (t8.bel.mono (Nat.le_of_lt hq0))).setCell (p := ⟨q, 0, none⟩) (Nat.le_refl _) _).setCell (p := ⟨q, 1, none⟩) (Nat.le_refl _) _).drew
                exact bodyPost_ret (v := .tuple #[.slice none 0 0, .agg #[.int .i64 ((k : Int) + 1), .int .i64 ((c8 : Int) + 1)], .int .i64 e8]) (by simp [results, Tryz.results27, go_sem, kk.cell]) rfl (by
                  show RdPost w (readF 0 [] L) _ _
                  rw [HI.out, HE.out]
                  exact ⟨ne8, rfl, bz⟩))

            | ok rs8 =>
              rw [hX8] at hP hlr
              obtain ⟨hM8, ao8, cap8, l8, nx8, cl8, hl8, h8, S8⟩ := hP
              have HE := Lib.hid (rd_ok (k := k) (L := L.drop (k + 1)) hid hlr)
              clear F8 h7 S7 W7 r7 t7 t8' hX8 hlr hid hw hW0 hW1 hW2
              have d0 := h8.at6
              have hr := Below.refl w8.heap.size w8
              have H8 := Lib.hid h8
              have SS8 := Lib.hid S8
              have T8 := Lib.hid t8
              subst hl8
              have HM8 := Lib.hid hM8
              have HI8 := Lib.hid (HI.out.trans HE.out)
              go_wp2_with fail
              clear d0 hr h8 S8 t8 hM8 k8 hR hS hM hT hO
              go_roundw
              case rel => exact ⟨k + 1, ao8, cap8, l8, _, _, nx8, cl8, by go_num, by omega, H8, SS8, HI8, HM8, T8⟩
              case measure => simp [intOf]; omega
          · rw [hw] at FW
            have FW := Lib.hid FW
            have HE := Lib.hid (rd_err (k := k) (rs := l.map Prod.snd) (L := L.drop (k + 1)) (c := c) (e := er) hid (by unfold lineR; rw [hw]))
            have heb := ne_b he0
            clear hid hx0 hw et
            go_wp2_with fail
            refine FI.out.mono ?_; rintro e w3 ⟨rfl, rfl⟩
            go_wp2_with fail
            refine FW.out.mono ?_; rintro e w5 ⟨wo, wcap, he5, how, b5⟩
            simp only [Option.getD_none, List.length_nil] at he5
            subst he5
            have t5 := hT.out.trans (Stp.later b5 (Nat.le_of_lt hR.out.lt))
            have h5 := Blk.later hR.out b5
            have k5 := kq.later b5
            clear d0 hr dl hgl how FI FW
            have d0 := h5.at6
            have hr := Below.refl w5.heap.size w5
            go_upto_region 10 with fail
            obtain ⟨w6, hw6⟩ : ∃ w6, (w5.setCell ⟨b, 1, none⟩ (.slice wo 0 wcap)).setCell ⟨b, 2, none⟩ (.int .i64 (x.length : Nat)) = w6 := ⟨_, rfl⟩
            have h6 : Rdr w6 b (.slice ao l.length cap) (.slice wo 0 wcap) x.length ⟨nx, cl, 0⟩ := by rw [← hw6]; exact Rdr.words h5 _ _
            have g6 : w5.grownBy w6 (some b) := by rw [← hw6]; exact only_setCell (p := ⟨b, 2, none⟩) (only_setCell (p := ⟨b, 1, none⟩) (only_below (Below.refl _ _) _) (.inl rfl) _) (.inl rfl) _
            have k6 := k5.grown g6 (fun e => by have := Option.some.inj e; omega)
            have t6 := t5.trans (Stp.reader h5 g6 (Nat.le_refl _))
            rw [hw6]
            clear hw6 d0 hr h5 k5 g6 t5
            go_wp2_with fail
            refine (rFail b x.length c _ _ ⟨nx, cl, 0⟩ er w6 h6 (by omega)).mono ?_; rintro e w7 ⟨rfl, h7, g7⟩
            have hf : failS ⟨nx, cl, 0⟩ c er = ⟨nx, c + 1, er⟩ := by unfold failS; rw [if_pos ⟨rfl, he0⟩]
            rw [hf] at h7
            have k7 := k6.grown g7 (fun e => by have := Option.some.inj e; omega)
            have t7 := t6.trans (Stp.reader h6 g7 (Nat.le_refl _))
            clear hf h6 k6 t6 g7
            have d0 := h7.at6
            have dq := k7.at2
            have hr := Below.refl w7.heap.size w7
            have cw : IntKind.i64.wrap ((k : Int) + 1) = ((k + 1 : Nat) : Int) := s1
            go_upto_region 14 with fail
            go_region
            all_goals (
              go_wp2_with fail
              have kk : Blk ((w7.setCell ⟨q, 0, none⟩ (.int .i64 ((k : Int) + 1))).setCell ⟨q, 1, none⟩ (.int .i64 ((c : Int) + 1))).drew q 49 #[.int .i64 ((k : Int) + 1), .int .i64 ((c : Int) + 1)] := by
                have := Blk.drew ((k7.set_ 0 (.int .i64 ((k : Int) + 1))).set_ 1 (.int .i64 ((c : Int) + 1)))
                simpa using this
              have bz : Below w.heap.size w ((w7.setCell ⟨q, 0, none⟩ (.int .i64 ((k : Int) + 1))).setCell ⟨q, 1, none⟩ (.int .i64 ((c : Int) + 1))).drew := by
                rw [HQQ.out]
                exact (((HB0.out.trans (t7.bel.mono (Nat.le_of_lt hq0))).setCell (p := ⟨q, 0, none⟩) (Nat.le_refl _) _).setCell (p := ⟨q, 1, none⟩) (Nat.le_refl _) _).drew
              exact bodyPost_ret (v := .tuple #[.slice none 0 0, .agg #[.int .i64 ((k : Int) + 1), .int .i64 ((c : Int) + 1)], .int .i64 er]) (by simp [results, Tryz.results27, go_sem, kk.cell]) rfl (by
                show RdPost w (readF 0 [] L) _ _
                rw [HI.out, HE.out]
                exact ⟨he0, rfl, bz⟩))
        · rw [hid] at FI
          have FI := Lib.hid FI
          have HI8 := Lib.hid (HI.out.trans (rd_idle hid))
          have HM8 := Lib.hid (sml_more hM.out)
          clear hid et
          go_wp2_with fail
          refine FI.out.mono ?_; rintro e w3 ⟨rfl, rfl⟩
          go_wp2_with fail
          clear d0 hr kq dl
          go_roundw
          case rel => exact ⟨k + 1, ao, cap, l, u, len, nx, cl, by go_num, by omega, hR, hS, HI8, HM8, hT⟩
          case measure => simp [intOf]; omega
      · obtain rfl : k = L.length := by omega
        have e2 : ¬ ((L.length : Int) < (L.length : Int)) := by omega
        have hrr : readF 0 [] L = .ok (l.map Prod.snd) := by rw [hI.out, List.drop_length]; rfl
        have HRR := Lib.hid hrr
        have kq := K1.out.below hT.out.bel hq0
        have d0 := hR.out.at6
        have dq := kq.at2
        have hr := Below.refl wr.heap.size wr
        have hml : Sml 100000 (l.map Prod.snd) := ⟨Nat.le_trans hM.out.1 (by omega), fun r hr => ⟨Nat.le_trans (hM.out.2 r hr).1 (by omega), Nat.le_trans (hM.out.2 r hr).2.1 (by omega), Nat.le_trans (hM.out.2 r hr).2.2 (by omega)⟩⟩
        have HML := Lib.hid hml
        clear hrr hml hI
        go_wp2_with fail
        have kk : Blk ((wr.setCell ⟨q, 0, none⟩ (.int .i64 0)).setCell ⟨q, 1, none⟩ (.int .i64 0)) q 49 #[.int .i64 0, .int .i64 0] := by
          have := (kq.set_ 0 (.int .i64 0)).set_ 1 (.int .i64 0)
          simpa using this
        have bz : Below q w ((wr.setCell ⟨q, 0, none⟩ (.int .i64 0)).setCell ⟨q, 1, none⟩ (.int .i64 0)) := ((HB0.out.trans (hT.out.bel.mono (Nat.le_of_lt hq0))).setCell (p := ⟨q, 0, none⟩) (Nat.le_refl _) _).setCell (p := ⟨q, 1, none⟩) (Nat.le_refl _) _
        have gz : wr.grownBy ((wr.setCell ⟨q, 0, none⟩ (.int .i64 0)).setCell ⟨q, 1, none⟩ (.int .i64 0)) (some q) := only_setCell (p := ⟨q, 1, none⟩) (only_setCell (p := ⟨q, 0, none⟩) (only_below (Below.refl _ _) _) (.inl rfl) _) (.inl rfl) _
        have RZ := hS.out.rnds.off kq gz (by decide) (by decide) (by decide) (by decide)
        exact bodyPost_ret (v := .tuple #[.slice ao l.length cap, .agg #[.int .i64 0, .int .i64 0], .int .i64 0]) (by simp [results, Tryz.results27, go_sem, kk.cell]) rfl (by
          show RdPost w (readF 0 [] L) _ _
          rw [HRR.out]
          exact ⟨HML.out, ao, cap, l, rfl, rfl, by rw [HQQ.out]; exact RZ.lower (Nat.le_of_lt hq0), by rw [HQQ.out]; exact bz⟩)
end Go.Proofs.YtmnkekepccdlcaaGreatDoor
