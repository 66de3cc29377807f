/-
  What the statements LexWords, LexLong and LexLines compute: each returns true, whatever the texts; they make new memory alone.
  Conditions: the variable internal/bytealg.MaxLen holds some integer.
-/
import Derived.Test.YtnaacbibciplfaaDoorLex6
namespace Go.Proofs.YtnaacbibciplfaaDoor
open Go.RowKit

set_option maxHeartbeats 4000000 in
set_option maxRecDepth 100000 in
theorem xLives (m : Int) (w : World) (hm : w.cell? ⟨0, 0, none⟩ = some (.int .i64 m)) (hG : 0 < w.heap.size) : Calls Tryd.prog 7 #[] w fun e w' => e = .returned (.bool true) ∧ Below w.heap.size w w' := by
  have hT : wordsT [115, 101, 110, 100, 32, 34, 97, 32, 98, 34] = (some [⟨[115, 101, 110, 100], false, 0⟩, ⟨[97, 32, 98], true, 5⟩], 0, 0) := by rfl
  have f1 : ∀ w, Calls Tryd.prog 6 #[.string ⟨#[115, 101, 110, 100, 32, 34, 97, 32, 98, 34]⟩] w (WordsPost 29 w.heap.size (some [⟨[115, 101, 110, 100], false, 0⟩, ⟨[97, 32, 98], true, 5⟩], 0, 0) w) := fun w => by
    have := xWords ⟨#[115, 101, 110, 100, 32, 34, 97, 32, 98, 34]⟩ (by decide) w
    rwa [show (⟨#[115, 101, 110, 100, 32, 34, 97, 32, 98, 34]⟩ : ByteArray).data.toList = [115, 101, 110, 100, 32, 34, 97, 32, 98, 34] from rfl, hT] at this
  have f2 := fun w hm => xLines ⟨#[97, 10]⟩ m w (by decide) hm
  have hL : linesL (⟨#[97, 10]⟩ : ByteArray).data.toList = [[97], []] := by rfl
  rw [hL] at f2
  have F1 := Lib.hid f1
  have F2 := Lib.hid f2
  have HM := Lib.hid hm
  clear f1 f2 hL hT hm
  go_enter Tryd.func7, Tryd.ntmps7
  go_wp2_with fail
  refine (F1.out _).mono ?_; rintro e w1 ⟨ao, cap, rfl, how, hb1⟩
  obtain ⟨g, rfl, hg, hc⟩ := ow_at how 1 (by decide)
  have hm1 := (hb1.cell (p := ⟨0, 0, none⟩) hG).trans HM.out
  have HM1 := Lib.hid hm1
  obtain ⟨c0, c1, c2⟩ := hc w1 (Below.refl _ _)
  clear hm1 hc how
  go_wp2_with fail
  refine (xName _).mono ?_; rintro e w2 ⟨rfl, rfl⟩
  clear c0 c1 c2
  go_wp2_with fail
  refine (F2.out _ HM1.out).mono ?_; rintro e w2 ⟨ao', cap', rfl, -, hb2⟩
  have hb3 := hb1.up hb2
  go_wp2_with fail
  go_ret
  exact ⟨rfl, hb3⟩

/-! How long words are when they are joined. -/
theorem rdL_room (t : List UInt8) : ∀ l, (rdL t).1 = some l → l.length + 1 ≤ (rdL t).2 := by
  refine rd_ind (Q := fun t => ∀ l, (rdL t).1 = some l → l.length + 1 ≤ (rdL t).2) ?_ ?_ ?_ t.length t (Nat.le_refl _)
  · intro t h l hl
    rw [rdL_end h] at hl ⊢
    cases hl
    exact Nat.le_refl _
  · intro t h h1 l hl
    rw [rdL_stop h h1] at hl
    cases hl
  · intro t b h h1 ih l hl
    rw [rdL_go h h1] at hl ⊢
    obtain ⟨l', hl', rfl⟩ := Option.map_eq_some_iff.1 hl
    have h2 := ih l' hl'
    have h3 := oneL_some h1
    rw [List.length_cons]
    simp only
    omega
theorem readT_room {s l : List UInt8} (h : (readT s).1 = some l) : l.length + 2 ≤ (readT s).2 := by
  match s with
  | [] => simp [readT] at h
  | c :: t =>
    by_cases hc : c = 34
    · simp only [readT, if_pos hc] at h ⊢
      have := rdL_room t l h
      omega
    · simp only [readT, if_neg hc] at h
      cases h
theorem oneW_room {t x : List UInt8} {q : Bool} (p : Nat) (h : (oneW t).1 = some (x, q)) : (wordB ⟨x, q, p⟩).length ≤ 4 * (oneW t).2.1 ∧ 1 ≤ (oneW t).2.1 := by
  unfold oneW at h ⊢
  by_cases h1 : t.head? = some 34
  · rw [if_pos h1] at h ⊢
    simp only at h ⊢
    cases hr : (readT t).1 with
    | none => rw [hr] at h; cases h
    | some l =>
      rw [hr] at h
      simp only [Option.map_some, Option.some.injEq, Prod.mk.injEq] at h
      obtain ⟨rfl, rfl⟩ := h
      have h2 := readT_room hr
      have h3 := flat_len l
      simp only [wordB, if_true, quoteT, List.length_cons, List.length_append, List.length_nil]
      omega
  · rw [if_neg h1] at h ⊢
    by_cases h2 : bareN t = 0
    · rw [if_pos h2] at h; cases h
    · rw [if_neg h2] at h ⊢
      simp only [Option.some.injEq, Prod.mk.injEq] at h
      obtain ⟨rfl, rfl⟩ := h
      have := List.length_take_le (bareN t) t
      simp only [wordB, Bool.false_eq_true, if_false]
      omega
theorem wordsF_room : ∀ (f : Nat) (t : List UInt8) (p : Nat) (l : List Wd), (wordsF f t p).1 = some l → (joinT l).length ≤ 4 * t.length ∧ l.length ≤ t.length
  | 0, _, _, _, h => by cases h
  | f + 1, t, p, l, h => by
    unfold wordsF at h
    have hle := oneW_le t
    cases hb : (oneW t).1 with
    | none => rw [hb] at h; cases h
    | some x =>
      obtain ⟨x, q⟩ := x
      rw [hb] at h
      obtain ⟨h1, h2⟩ := oneW_room p hb
      simp only at h
      split at h
      · simp only [Option.some.injEq] at h
        subst h
        exact ⟨by show (wordB _).length ≤ _; omega, by simp; omega⟩
      · rename_i hne
        split at h
        · obtain ⟨l', hl', rfl⟩ := Option.map_eq_some_iff.1 h
          have ih := wordsF_room f _ _ l' hl'
          rw [List.length_drop] at ih
          have hlt : (oneW t).2.1 < t.length := by
            rcases Nat.lt_or_ge (oneW t).2.1 t.length with h | h
            · exact h
            · exact absurd (List.drop_of_length_le h) hne
          refine ⟨?_, by rw [List.length_cons]; omega⟩
          cases l' with
          | nil => show (wordB _).length ≤ _; omega
          | cons y l' =>
            show (wordB _ ++ 32 :: joinT (y :: l')).length ≤ _
            rw [List.length_append, List.length_cons]
            omega
        · cases h
/-- The words of a line are read as the same when they are joined. -/
theorem words_back (t : List UInt8) (ht : t.length ≤ 90) : ∃ m, wordsT (joinT ((wordsT t).1.getD [])) = (some m, 0, 0) ∧ m.map (fun x => (x.text, x.quoted)) = ((wordsT t).1.getD []).map (fun x => (x.text, x.quoted)) ∧
    (joinT ((wordsT t).1.getD [])).length ≤ 400 ∧ ((wordsT t).1.getD []).length ≤ 90 := by
  by_cases h0 : t = []
  · subst h0
    exact ⟨[], rfl, rfl, by decide, by decide⟩
  · have hT : wordsT t = wordsL t 0 := by
      unfold wordsT
      rw [if_neg (by omega), if_neg h0]
    rw [hT]
    cases hw : (wordsL t 0).1 with
    | none => exact ⟨[], rfl, rfl, by decide, by decide⟩
    | some l =>
      obtain ⟨g1, g2⟩ := wordsF_good _ _ _ l hw
      obtain ⟨r1, r2⟩ := wordsF_room _ _ _ l hw
      obtain ⟨m, m1, m2⟩ := words_join l 0 g1 g2
      refine ⟨m, ?_, m2, by rw [Option.getD_some]; omega, by rw [Option.getD_some]; omega⟩
      rw [Option.getD_some]
      have hj : joinT l ≠ [] := by
        intro e
        rw [e] at m1
        have : (wordsL [] 0).1 = none := rfl
        rw [m1] at this
        cases this
      unfold wordsT
      rw [if_neg (by omega), if_neg hj]
      exact m1

set_option maxHeartbeats 8000000 in
set_option maxRecDepth 100000 in
theorem lexWords (s0 : ByteArray) (m : Int) (w : World) (hm : w.cell? ⟨0, 0, none⟩ = some (.int .i64 m)) (hG : 0 < w.heap.size) :
    Calls Tryd.prog 5 #[.string s0] w fun e w' => e = .returned (.bool true) ∧ Below w.heap.size w w' := by
  have HM := Lib.hid hm
  clear hm
  go_enter Tryd.func5, Tryd.ntmps5
  go_wp2_with fail
  refine (xCut s0 90 _).mono ?_; rintro e w1 ⟨rfl, rfl⟩
  have hs := cutT_size s0 90
  generalize cutT s0 90 = s at *
  have f1 := fun w => xWords s (by omega) w
  have f2 := fun w => yWords s (by omega) w
  obtain ⟨mm, b1, b2, b3, b4⟩ := words_back s.data.toList hs
  obtain ⟨ws, hws⟩ : ∃ ws, ws = (wordsT s.data.toList).1.getD [] := ⟨_, rfl⟩
  obtain ⟨kk, hkk⟩ : ∃ kk, kk = (wordsT s.data.toList).2.1 := ⟨_, rfl⟩
  obtain ⟨er, her⟩ : ∃ er, er = (wordsT s.data.toList).2.2 := ⟨_, rfl⟩
  unfold WordsPost at f1 f2
  rw [← hws, ← hkk, ← her] at f1 f2
  rw [← hws] at b1 b2 b3 b4
  have f3 : ∀ w, Calls Tryd.prog 6 #[.string (bt (joinT ws))] w (WordsPost 29 w.heap.size (some mm, 0, 0) w) := fun w => by
    have := xWords (bt (joinT ws)) (by show (joinT ws).length ≤ _; omega) w
    rwa [show (bt (joinT ws)).data.toList = joinT ws from rfl, b1] at this
  have F1 := Lib.hid f1
  have F2 := Lib.hid f2
  have F3 := Lib.hid f3
  have B2 := Lib.hid b2
  have B3 := Lib.hid b3
  have B4 := Lib.hid b4
  clear f1 f2 f3 b1 b2 b3 b4 hws hkk her
  go_wp2_with fail
  refine (F1.out _).mono ?_; rintro e w1 ⟨ao, cap, rfl, ho1, hb1⟩
  go_wp2_with fail
  refine (F2.out _).mono ?_; rintro e w2 ⟨bo, bcap, rfl, ho2, hb2'⟩
  have ho1 := ow_later ho1 hb2'
  have hb2 := hb1.up hb2'
  clear hb1 hb2'
  go_wp2_with fail
  refine (lSame ws ao bo cap bcap _ _ _ ho1 ho2 (by have := B4.out; omega)).mono ?_; rintro e w3 ⟨rfl, hb3'⟩
  have ho1 := ow_later ho1 hb3'
  have ho2 := ow_later ho2 hb3'
  have hb3 := hb2.up hb3'
  clear hb2 hb3'
  go_wp2_with fail
  refine (xJoin ws ao cap _ _ ho1 (by have := B4.out; omega) (by have := B3.out; omega)).mono ?_; rintro e w4 ⟨rfl, hb4'⟩
  have ho2 := ow_later ho2 hb4'
  have hb4 := hb3.up hb4'
  clear hb3 hb4'
  go_wp2_with fail
  refine (yJoin ws bo bcap _ _ ho2 (by have := B4.out; omega) (by have := B3.out; omega)).mono ?_; rintro e w5 ⟨rfl, hb5'⟩
  have ho2 := ow_later ho2 hb5'
  have hb5 := hb4.up hb5'
  clear hb4 hb5'
  go_wp2_with fail
  refine (yJoin ws bo bcap _ _ ho2 (by have := B4.out; omega) (by have := B3.out; omega)).mono ?_; rintro e w6 ⟨rfl, hb6'⟩
  have ho2 := ow_later ho2 hb6'
  have hb6 := hb5.up hb6'
  clear hb5 hb6'
  go_wp2_with fail
  refine (F3.out _).mono ?_; rintro e w7 ⟨co, ccap, rfl, ho3, hb7'⟩
  have ho2 := ow_later ho2 hb7'
  have hb7 := hb6.up hb7'
  have hmw : mm.length = ws.length := by
    have := congrArg List.length B2.out
    simpa using this
  have ho3' : OW 29 w6.heap.size w7 co ccap mm := ho3
  have HA := Lib.hid (ow_at ho3')
  have HB := Lib.hid (ow_at ho2)
  have hgm : ((some mm, (0 : Nat), (0 : Int)).1.getD []).length = ws.length := hmw
  rw [hgm]
  have HMW := Lib.hid hmw
  have hwz : ws.length ≤ 90 := B4.out
  clear hb6 hb7' ho1 ho2 ho3 ho3' hgm hmw
  have hmx := (hb7.cell (p := ⟨0, 0, none⟩) hG).trans HM.out
  have HMX := Lib.hid hmx
  have hGz : 0 < w7.heap.size := Nat.lt_of_lt_of_le hG hb7.size
  clear hmx
  go_wp2_with fail
  go_loopw [12] (fun iv wr => ∃ (k : Nat), iv = .int .i64 k ∧ k ≤ ws.length ∧ Below w7.heap.size w7 wr) (fun iv _ => ws.length - (intOf iv).toNat)
  case atStart => exact ⟨0, rfl, Nat.zero_le _, Below.refl _ _⟩
  case round =>
    obtain ⟨k, rfl, hk, hb⟩ := hrel
    have e0 : (0 : Int) ≤ (k : Int) := by omega
    by_cases hlt : k < ws.length
    · have e1 : (k : Int) < (ws.length : Int) := by omega
      have hlt' : k < mm.length := by rw [HMW.out]; exact hlt
      obtain ⟨g, rfl, hg, hc⟩ := HA.out k hlt'
      obtain ⟨g', rfl, hg', hc'⟩ := HB.out k hlt
      have heq : mm[k].text = ws[k].text ∧ mm[k].quoted = ws[k].quoted := by
        have := congrArg (fun l => l[k]?) B2.out
        simp only [List.getElem?_map, List.getElem?_eq_getElem hlt, List.getElem?_eq_getElem hlt', Option.map_some, Option.some.injEq, Prod.mk.injEq] at this
        exact this
      obtain ⟨a0, a1, a2⟩ := hc wr hb
      obtain ⟨c0, c1, c2⟩ := hc' wr hb
      clear a2 c2
      rw [heq.1] at a0
      rw [heq.2] at a1
      generalize bt ws[k].text = tx at *
      generalize ws[k].quoted = qd at *
      clear hc hc' heq hlt'
      go_wp2_with fail
      go_quiet (fail)
      go_wp2_with fail
      go_roundw
      case rel => exact ⟨k + 1, by go_num, by omega, below_drewN hb _⟩
      case measure => simp [intOf]; omega
    · obtain rfl : k = ws.length := by omega
      have e1 : ¬ (ws.length : Int) < (ws.length : Int) := by omega
      have hmr := (hb.cell (p := ⟨0, 0, none⟩) hGz).trans HMX.out
      have HMR := Lib.hid hmr
      have hGr : 0 < wr.heap.size := Nat.lt_of_lt_of_le hGz hb.size
      clear hmr
      go_wp2_with fail
      refine (xLives m _ HMR.out hGr).mono ?_; rintro e w9 ⟨rfl, hb9⟩
      go_wp2_with fail
      go_ret
      exact ⟨rfl, (hb7.up hb).up hb9⟩

theorem infoByteL : (Tryd.prog.info? 5).map (fun i => (i.zero, i.size, i.bytes)) = some (some (.int .u8 0), 1, 1) := by kernel_rfl
theorem words_aaa (k : Nat) (h : 0 < k) : wordsT (List.replicate k 97) = if 1200 < k then (none, 1200, 4) else (some [⟨List.replicate k 97, false, 0⟩], 0, 0) := by
  have h0 : List.replicate k (97 : UInt8) ≠ [] := by
    intro e
    have := congrArg List.length e
    simp at this
    omega
  unfold wordsT
  rw [List.length_replicate, if_neg h0]
  split
  · rfl
  · have hb : bareN (List.replicate k 97) = k := by
      unfold bareN
      rw [List.takeWhile_replicate]
      simp [plainB]
    have h1 : (List.replicate k (97 : UInt8)).head? ≠ some 34 := by
      cases k with
      | zero => omega
      | succ k => simp [List.replicate_succ]
    have ho : oneW (List.replicate k 97) = (some (List.replicate k 97, false), k, 0) := by
      unfold oneW
      rw [if_neg h1, hb, if_neg (by omega), List.take_of_length_le (by simp)]
    exact wordsL_end 0 (by rw [ho]) (by rw [ho]; simp)

set_option maxHeartbeats 4000000 in
set_option maxRecDepth 100000 in
theorem lexLong (n : Int) (m : Int) (w : World) (hn : 0 ≤ n ∧ n ≤ 255) (hm : w.cell? ⟨0, 0, none⟩ = some (.int .i64 m)) (hG : 0 < w.heap.size) :
    Calls Tryd.prog 3 #[.int .u8 n] w fun e w' => e = .returned (.bool true) ∧ Below w.heap.size w w' := by
  have HM := Lib.hid hm
  clear hm
  go_enter Tryd.func3, Tryd.ntmps3
  go_wp2_with fail
  go_loopw [3, 4] (fun v iv wr => ∃ (ao : Option Addr) (cap k : Nat), iv = .int .i64 k ∧ v = .slice ao k cap ∧ (k : Int) ≤ 1190 + n % 20 ∧ OB 5 w.heap.size wr v (List.replicate k 97) ∧ Below w.heap.size w wr) (fun _ iv _ => 5000 - (intOf iv).toNat)
  case atStart => exact ⟨_, 0, 0, rfl, rfl, by omega, OB.empty (Nat.le_refl _), (Below.refl _ _).alloc (Nat.le_refl _) _⟩
  case round =>
    obtain ⟨ao, cap, k, rfl, rfl, hk, hob, hb⟩ := hrel
    by_cases hlt : (k : Int) < 1190 + n % 20
    · have hm : k ≤ 1000000 := by omega
      go_wp2_with (at_builtin; refine wpList_append_byte infoByteL Tryd.underlying22 _ rfl _ _ rfl w.heap.size _ _ rfl (hob.alloc _) wr.heap.size rfl 97 ?c1 ?c2 ?c3 ?c4)
      case c1 => exact cell_new1 _ _ _
      case c2 => simp; omega
      case c3 => have := hb.size; simp; omega
      case c4 =>
        intro ao' cap' w' h1 h2
        have hb' : Below w.heap.size w w' := OB.below (hob.alloc _) (hb.alloc hb.size _) h2 (Nat.le_refl _)
        have h3 : OB 5 w.heap.size w' (.slice ao' (k + 1) cap') (List.replicate (k + 1) 97) := h1.cast (by rw [List.replicate_succ'])
        clear h1 h2 hob hb
        go_wp2_with fail
        go_roundw
        case rel => exact ⟨ao', cap', k + 1, by go_num, rfl, by omega, h3, hb'⟩
        case measure => simp [intOf]; omega
    · have hwt := words_aaa k (by omega)
      obtain ⟨L, hL⟩ : ∃ L, L = List.replicate k (97 : UInt8) := ⟨_, rfl⟩
      have hLl : L.length = k := by rw [hL, List.length_replicate]
      rw [← hL] at hob hwt
      have hf := fun w => xWords (bt L) (by show L.length ≤ _; omega) w
      rw [show (bt L).data.toList = L from rfl, hwt] at hf
      have hcv := hob.text (P := Tryd.prog) Tryd.underlying22 Tryd.underlying5 Tryd.underlying9
      have HCV := Lib.hid (show ∀ w', Below wr.heap.size wr w' → (convert 22 9 (.slice ao k cap)).run Tryd.prog w' = .ok (.string (bt L)) w' from hcv)
      have hmx := (hb.cell (p := ⟨0, 0, none⟩) hG).trans HM.out
      have HMX := Lib.hid hmx
      have hGr : 0 < wr.heap.size := Nat.lt_of_lt_of_le hG hb.size
      clear hcv hob hL hLl hwt hmx
      by_cases hbig : 1200 < k
      · rw [if_pos hbig] at hf
        have HF := Lib.hid hf
        have hc0 := HCV.out wr (Below.refl _ _)
        have hbigI : (1200 : Int) < (k : Int) := by omega
        clear hf
        go_wp2_with fail
        refine (HF.out _).mono ?_; rintro e w1 ⟨bo, bcap, rfl, -, hb1⟩
        have hm1 := (hb1.cell (p := ⟨0, 0, none⟩) hGr).trans HMX.out
        have HM1 := Lib.hid hm1
        have hG1 : 0 < w1.heap.size := Nat.lt_of_lt_of_le hGr hb1.size
        have hb2 := hb.up hb1
        clear hm1 hc0 hb hb1
        go_wp2_with fail
        refine (xLives m _ HM1.out hG1).mono ?_; rintro e w9 ⟨rfl, hb9⟩
        go_wp2_with fail
        go_ret
        exact ⟨rfl, hb2.up hb9⟩
      · rw [if_neg hbig] at hf
        have HF := Lib.hid hf
        have hc0 := HCV.out wr (Below.refl _ _)
        have hbigI : ¬ (1200 : Int) < (k : Int) := by omega
        clear hf
        go_wp2_with fail
        refine (HF.out _).mono ?_; rintro e w1 ⟨bo, bcap, rfl, how, hb1⟩
        obtain ⟨g, rfl, hg, hc⟩ := ow_at how 0 (by simp)
        have hm1 := (hb1.cell (p := ⟨0, 0, none⟩) hGr).trans HMX.out
        have HM1 := Lib.hid hm1
        have hG1 : 0 < w1.heap.size := Nat.lt_of_lt_of_le hGr hb1.size
        have hb2 := hb.up hb1
        have d0 : ∀ w', Below w1.heap.size w1 w' → w'.cell? ⟨g, 0, none⟩ = some (.string (bt L)) := fun w' h => (hc w' h).1
        have d1 : ∀ w', Below w1.heap.size w1 w' → (convert 22 9 (.slice ao k cap)).run Tryd.prog w' = .ok (.string (bt L)) w' := fun w' h => HCV.out w' (hb1.up h)
        generalize bt L = u at *
        clear hm1 hc0 hb hc how hb1
        have hr := Below.refl w1.heap.size w1
        go_upto_region 9 with fail
        have hu : ∀ u : Later w1.heap.size w1, Below w1.heap.size w1 u.world := Later.below
        refine wp_region_later w1.heap.size (by kernel_rfl) (by kernel_rfl) ?_
        repeat (go_big_quiet_step ((go_at_call 7; exact later_below (Nat.le_refl _) (xLives m _ (((hu _).cell (p := ⟨0, 0, none⟩) hG1).trans HM1.out) (Nat.lt_of_lt_of_le hG1 (hu _).size)))))
        refine wpQuiet_nil ?_
        intro w5 hb5
        go_wp2_with fail
        go_ret
        exact ⟨rfl, hb2.up hb5⟩

theorem join_snoc : ∀ (l : List (List UInt8)) (x : List UInt8), Lib.join (l ++ [x]) [10] = if l = [] then x else Lib.join l [10] ++ 10 :: x
  | [], x => by simp [Lib.join_one]
  | [y], x => by simp [Lib.join, List.intercalate]
  | y :: z :: l, x => by
    have := join_snoc (z :: l) x
    rw [if_neg (by simp)] at this ⊢
    have e1 : ∀ r, Lib.join (y :: z :: r) [10] = y ++ 10 :: Lib.join (z :: r) [10] := fun r => by simp [Lib.join, List.intercalate]
    show Lib.join (y :: z :: (l ++ [x])) [10] = _
    rw [e1, e1]
    show y ++ 10 :: Lib.join (z :: l ++ [x]) [10] = _
    rw [this]
    simp
theorem join_take (l : List (List UInt8)) : ∀ k, k ≤ l.length → (Lib.join (l.take k) [10]).length ≤ (Lib.join l [10]).length := by
  have h : ∀ (n k : Nat), k + n = l.length → (Lib.join (l.take k) [10]).length ≤ (Lib.join l [10]).length := by
    intro n
    induction n with
    | zero => intro k hk; rw [List.take_of_length_le (by omega)]; exact Nat.le_refl _
    | succ n ih =>
      intro k hk
      have h1 := ih (k + 1) (by omega)
      rw [List.take_succ_eq_append_getElem (by omega), join_snoc] at h1
      split at h1
      · rename_i h2
        rw [h2]
        exact Nat.zero_le _
      · rw [List.length_append] at h1
        omega
  intro k hk
  exact h (l.length - k) k (by omega)

set_option maxHeartbeats 4000000 in
set_option maxRecDepth 100000 in
theorem lexLines (s0 : ByteArray) (m : Int) (w : World) (hm : w.cell? ⟨0, 0, none⟩ = some (.int .i64 m)) (hG : 0 < w.heap.size) :
    Calls Tryd.prog 4 #[.string s0] w fun e w' => e = .returned (.bool true) ∧ Below w.heap.size w w' := by
  have HM := Lib.hid hm
  clear hm
  go_enter Tryd.func4, Tryd.ntmps4
  go_wp2_with fail
  refine (xCut s0 60 _).mono ?_; rintro e w1 ⟨rfl, rfl⟩
  have hs := cutT_size s0 60
  generalize cutT s0 60 = s at *
  have f1 := fun w hm => xLines s m w (by omega) hm
  have f2 := fun w => yLines s w (by omega)
  have hj := linesL_join s.data.toList
  have hlen : (linesL s.data.toList).length ≤ 61 := by
    have hcount : Lib.countB s ⟨#[10]⟩ = s.data.toList.count 10 := Lib.count_one 10 s.data.toList
    have hdat : (Lib.splitB ⟨#[10]⟩ 0 (Lib.countB s ⟨#[10]⟩) s).map (fun x : ByteArray => x.data.toList) = linesL s.data.toList := by
      rw [Lib.splitB_data, hcount]
      exact split_lines _ _ (Nat.le_refl _)
    have hle := Lib.countB_le ⟨#[10]⟩ (by decide) s.size s (Nat.le_refl _)
    rw [← hdat, List.length_map, Lib.splitB_all _ (by decide) 0 _ s rfl]
    omega
  generalize linesL s.data.toList = L at *
  have F1 := Lib.hid f1
  have F2 := Lib.hid f2
  have HJ := Lib.hid hj
  clear f1 f2 hj
  go_wp2_with fail
  refine (F1.out _ HM.out).mono ?_; rintro e w1 ⟨ao, cap, rfl, ho1, hb1⟩
  go_wp2_with fail
  refine (F2.out _).mono ?_; rintro e w2 ⟨bo, bcap, rfl, ho2, hb2'⟩
  have ho1' := os_later ho1 hb2'
  have hb2 := hb1.up hb2'
  have HA := Lib.hid (os_at ho1')
  have HB := Lib.hid (os_at ho2)
  have hmx := (hb2.cell (p := ⟨0, 0, none⟩) hG).trans HM.out
  have HMX := Lib.hid hmx
  have hGz : 0 < w2.heap.size := Nat.lt_of_lt_of_le hG hb2.size
  have hLz : L.length ≤ 9223372036854775807 := by omega
  clear hmx ho1 ho1' ho2 hb1 hb2'
  go_wp2_with fail
  go_loopw [5, 6] (fun ov iv wr => ∃ (k : Nat) (o : ByteArray), iv = .int .i64 k ∧ k ≤ L.length ∧ ov = .string o ∧ Hid (o = bt (Lib.join (L.take k) [10])) ∧ Below w2.heap.size w2 wr) (fun _ iv _ => L.length - (intOf iv).toNat)
  case atStart => exact ⟨0, _, rfl, Nat.zero_le _, rfl, Lib.hid rfl, Below.refl _ _⟩
  case round =>
    obtain ⟨k, o, rfl, hk, rfl, ho, hb⟩ := hrel
    have e0 : (0 : Int) ≤ (k : Int) := by omega
    by_cases hlt : k < L.length
    · have e1 : (k : Int) < (L.length : Int) := by omega
      obtain ⟨g, rfl, hg, hc⟩ := HA.out k hlt
      obtain ⟨g', rfl, hg', hc'⟩ := HB.out k hlt
      have hsn : Lib.join (L.take (k + 1)) [10] = if L.take k = [] then L[k] else Lib.join (L.take k) [10] ++ 10 :: L[k] := by
        rw [List.take_succ_eq_append_getElem hlt, join_snoc]
      have ht1 := join_take L k hk
      have ht2 := join_take L (k + 1) (by omega)
      have hjl : (Lib.join L [10]).length ≤ 60 := by
        have h3 : s.data.toList.length = s.size := rfl
        rw [HJ.out, h3]; exact hs
      have hos : o.size = (Lib.join (L.take k) [10]).length := by rw [ho.out]; rfl
      have hempty : L.take k = [] ↔ k = 0 := by
        rw [List.take_eq_nil_iff]
        constructor
        · rintro (h | h)
          · exact h
          · rw [h] at hlt; simp at hlt
        · exact .inl
      have d0 : ∀ w', Below w2.heap.size w2 w' → w'.cell? ⟨g, k, none⟩ = some (.string (bt L[k])) ∧ w'.cell? ⟨g', k, none⟩ = some (.string (bt L[k])) := fun w' h => ⟨hc w' h, hc' w' h⟩
      have hi1 := fun w => xIdle (bt L[k]) w
      have hi2 := fun w => yIdle (bt L[k]) w
      generalize L[k] = x at *
      generalize idleB (bt x).data.toList = ib at *
      obtain ⟨o2, ho2, hos2⟩ : ∃ o2 : ByteArray, (if k = 0 then o else o ++ ⟨#[10]⟩) = o2 ∧ o2 ++ bt x = bt (Lib.join (L.take (k + 1)) [10]) := by
        refine ⟨_, rfl, ?_⟩
        by_cases hk0 : k = 0
        · rw [if_pos hk0, hsn, if_pos (hempty.2 hk0), ho.out, hempty.2 hk0]
          apply ByteArray.ext; simp [Lib.join_nil]
        · rw [if_neg hk0, hsn, if_neg (fun e => hk0 (hempty.1 e)), ho.out]
          apply ByteArray.ext; simp
      have hz : o2.size + x.length ≤ 60 := by
        have h1 := congrArg ByteArray.size hos2
        rw [ByteArray.size_append] at h1
        have h2 : (bt (Lib.join (L.take (k + 1)) [10])).size = (Lib.join (L.take (k + 1)) [10]).length := rfl
        have h3 : (bt x).size = x.length := rfl
        omega
      have hoz : o.size ≤ 60 := by omega
      have HO := Lib.hid hos2
      have HI1 := Lib.hid hi1
      have HI2 := Lib.hid hi2
      clear hos2 hsn ht1 ht2 hempty hos hjl hc hc' hi1 hi2
      have hz2 : ¬ 9223372036854775807 < o.size + (⟨#[10]⟩ : ByteArray).size := by show ¬ _ < o.size + 1; omega
      have hz3 : ¬ 9223372036854775807 < o2.size + (bt x).size := by show ¬ _ < o2.size + x.length; omega
      generalize bt x = xx at *
      have hr0 := hb
      go_upto_region 8 with fail
      have hu : ∀ u : Later wr.heap.size wr, Below w2.heap.size w2 u.world := fun u => hb.up u.below
      refine wp_region_later wr.heap.size (by kernel_rfl) (by kernel_rfl) ?_
      repeat (go_big_quiet_step ((first | (go_at_call 11; exact later_same (HI1.out _)) | (go_at_call 12; exact later_same (HI2.out _)))))
      refine wpQuiet_nil ?_
      intro w5 hb5
      have hr := hb.up hb5
      clear hu hr0 hb hb5
      by_cases hk0 : k = 0
      · rw [if_pos hk0] at ho2
        subst ho2
        have ek : ¬ 0 < k := by omega
        clear hk0
        go_wp2_with fail
        go_roundw
        case rel => exact ⟨k + 1, _, by go_num, by omega, rfl, HO, hr⟩
        case measure => simp [intOf]; omega
      · rw [if_neg hk0] at ho2
        have ek : 0 < k := by omega
        subst ho2
        have hz4 : ¬ 9223372036854775807 < o.size + (⟨#[10]⟩ : ByteArray).size + xx.size := by rw [← ByteArray.size_append]; exact hz3
        have hz5 : ¬ 9223372036854775807 < o.size + 1 + xx.size := hz4
        clear hk0
        go_wp2_with fail
        go_roundw
        case rel => exact ⟨k + 1, _, by go_num, by omega, rfl, HO, hr⟩
        case measure => simp [intOf]; omega
    · obtain rfl : k = L.length := by omega
      have e1 : ¬ (L.length : Int) < (L.length : Int) := by omega
      have hoe : o = s := by
        rw [ho.out, List.take_length, HJ.out]
      subst hoe
      have hmr := (hb.cell (p := ⟨0, 0, none⟩) hGz).trans HMX.out
      have HMR := Lib.hid hmr
      have hGr : 0 < wr.heap.size := Nat.lt_of_lt_of_le hGz hb.size
      clear hmr
      go_wp2_with fail
      refine (xLives m _ HMR.out hGr).mono ?_; rintro e w9 ⟨rfl, hb9⟩
      go_wp2_with fail
      go_ret
      exact ⟨rfl, (hb2.up hb).up hb9⟩
end Go.Proofs.YtnaacbibciplfaaDoor
