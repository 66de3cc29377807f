/-
  The rounds of a text, as the reference reads it.
  Conditions: a text of at most 50000 bytes.
-/
import Derived.Test.YtmnkekepccdlcaaGreatDoorWRdC
namespace Go.Proofs.YtmnkekepccdlcaaGreatDoor
set_option linter.unusedVariables false
set_option linter.unusedSimpArgs false
open Go.RowKit

theorem bind_err {α β : Type} {x : Res α} {f : α → Res β} {p : Nat × Int} (h : x.bind f = .error p) : x = .error p ∨ ∃ a, x = .ok a ∧ f a = .error p := by
  cases x with
  | error q => cases h; exact .inl rfl
  | ok a => exact .inr ⟨a, rfl, h⟩
section
variable {W : List Wd} {len i M c : Nat} {e most : Int}
theorem fNum_col (hp : ∀ x ∈ W, x.place ≤ M) (hl : len ≤ M) (h : fNum W len i most = .error (c, e)) : c ≤ M := by
  unfold fNum at h
  cases hx : W[i]? with
  | none => rw [hx] at h; cases h; exact hl
  | some x =>
    have := hp x (List.mem_of_getElem? hx)
    rw [hx] at h
    simp only at h
    split at h
    · cases h; exact this
    · split at h
      · cases h
      · cases h; exact this
theorem fTxt_col (hp : ∀ x ∈ W, x.place ≤ M) (hl : len ≤ M) (h : fTxt W len i = .error (c, e)) : c ≤ M := by
  unfold fTxt at h
  cases hx : W[i]? with
  | none => rw [hx] at h; cases h; exact hl
  | some x =>
    have := hp x (List.mem_of_getElem? hx)
    rw [hx] at h
    simp only at h
    split at h
    · split at h
      · cases h; exact this
      · cases h
    · cases h; exact this
theorem fEnd_col (hp : ∀ x ∈ W, x.place ≤ M) (h : fEnd W i = .error (c, e)) : c ≤ M := by
  unfold fEnd at h
  cases hx : W[i]? with
  | none => rw [hx] at h; cases h
  | some x =>
    rw [hx] at h
    cases h
    exact hp x (List.mem_of_getElem? hx)
theorem num_end {β : Type} {g : Int → β} {j : Nat} (hp : ∀ x ∈ W, x.place ≤ M) (hl : len ≤ M) (h : ((fNum W len i most).bind fun n => (fEnd W j).bind fun _ => .ok (g n)) = .error (c, e)) : c ≤ M := by
  rcases bind_err h with h | ⟨n, _, h⟩
  · exact fNum_col hp hl h
  · rcases bind_err h with h | ⟨_, _, h⟩
    · exact fEnd_col hp h
    · cases h
theorem say_col {rs : List Rd} (hp : ∀ x ∈ W, x.place ≤ M) (hl : len ≤ M) (h : sayT rs W len = .error (c, e)) : c ≤ M := by
  unfold sayT at h
  simp only at h
  split at h
  · cases h; exact Nat.zero_le _
  split at h
  · exact num_end hp hl h
  split at h
  · exact num_end hp hl h
  split at h
  · rcases bind_err h with h | ⟨n, _, h⟩
    · exact fNum_col hp hl h
    · rcases bind_err h with h | ⟨_, _, h⟩
      · exact fTxt_col hp hl h
      · rcases bind_err h with h | ⟨_, _, h⟩
        · exact fEnd_col hp h
        · cases h
  split at h
  · exact num_end hp hl h
  split at h
  · rcases bind_err h with h | ⟨n, _, h⟩
    · exact fNum_col hp hl h
    · exact num_end hp hl h
  split at h
  · exact num_end hp hl h
  · rcases bind_err h with h | ⟨_, _, h⟩
    · exact fEnd_col hp h
    · cases h
end
theorem line_col {rs : List Rd} {x : List UInt8} {c : Nat} {e : Int} (hx : x ≠ []) (hl : x.length ≤ 50000) (h : lineR rs x = .error (c, e)) : c ≤ 200000 := by
  unfold lineR at h
  rcases words_facts hx hl with ⟨W, hw, _, _, _, hW2⟩ | ⟨c0, er, hw, _, hc⟩
  · rw [hw] at h
    exact Nat.le_trans (say_col (M := 100000) (fun x hx => (hW2 x hx).1) (by omega) h) (by decide)
  · rw [hw] at h
    cases h
    exact hc

set_option maxHeartbeats 8000000 in
set_option maxRecDepth 100000 in
theorem gReadAll (s : ByteArray) (w : World) (hs : s.size ≤ 50000) : Calls Tryz.prog 28 #[.string s] w (RdPost w (readW s.data.toList)) := by
  have hq : readW s.data.toList = if 40000 < s.size then .error (0, 0, 4) else readF 0 [] (linesL s.data.toList) := rfl
  rw [hq]
  clear hq
  obtain ⟨w0, hw0⟩ : ∃ w0, w.alloc (.cells #[.int .i64 0, .int .i64 0] 49) = w0 := ⟨_, rfl⟩
  have k0 : Blk w0 w.heap.size 49 #[.int .i64 0, .int .i64 0] := by rw [← hw0]; exact Blk.new _ _ _
  have b0 : Below w.heap.size w w0 := by rw [← hw0]; exact (Below.refl _ _).alloc (Nat.le_refl _) _
  obtain ⟨w1, hw1⟩ : ∃ w1, w0.alloc (.cells #[] 59) = w1 := ⟨_, rfl⟩
  have b1 : Below w0.heap.size w0 w1 := by rw [← hw1]; exact (Below.refl _ _).alloc (Nat.le_refl _) _
  have r1 : Rnds w0.heap.size w1 (some ⟨w0.heap.size, 0, none⟩) 0 [] := by rw [← hw1]; exact ⟨orow_empty _ _ _ _ (Nat.le_refl _), fun _ h => by cases h⟩
  have F1 := Lib.hid (yLines s w1 (by omega))
  have k1 := k0.later b1
  have hq0 : w.heap.size < w0.heap.size := k0.lt
  obtain ⟨hll, hls⟩ := lines_room s.data.toList
  have hsl : s.data.toList.length = s.size := rfl
  rw [hsl] at hll hls
  have HLL := Lib.hid hls
  have hLL : (linesL s.data.toList).length ≤ 50001 := by omega
  generalize linesL s.data.toList = L at *
  have HB0 := Lib.hid (b0.up b1)
  have HW0 := Lib.hid hw0
  have HW1 := Lib.hid hw1
  have hbs : w0.heap.size ≤ w1.heap.size := b1.size
  clear hw0 hw1 hls hsl b0 b1 k0
  generalize hbq : w0.heap.size = b at *
  generalize hqq : w.heap.size = q at *
  have HQQ := Lib.hid hqq
  have HBQ := Lib.hid hbq
  clear hbq hqq
  have c0 : (0 : Int) = (0 : Int) := rfl
  clear c0
  by_cases hbig : 40000 < s.size
  · rw [if_pos hbig]
    have e1 : (40000 : Int) < (s.size : Int) := by omega
    go_enter Tryz.func28, Tryz.ntmps28
    go_upto_region 1 with fail
    rw [HW0.out, HQQ.out]
    go_wp2_with fail
    rw [HBQ.out, HW1.out]
    refine F1.out.mono ?_; rintro e w2 ⟨lo, lcap, rfl, hos, b2⟩
    have k2 := k1.later b2
    have d0 := k2.at2
    have hr := Below.refl w2.heap.size w2
    clear F1 hos k1 r1
    go_wp2_with fail
    have kk : Blk ((w2.setCell ⟨q, 0, none⟩ (.int .i64 0)).setCell ⟨q, 1, none⟩ (.int .i64 0)) q 49 #[.int .i64 0, .int .i64 0] := by
      have := (k2.set_ 0 (.int .i64 0)).set_ 1 (.int .i64 0)
      simpa using this
    have bz : Below q w ((w2.setCell ⟨q, 0, none⟩ (.int .i64 0)).setCell ⟨q, 1, none⟩ (.int .i64 0)) := ((HB0.out.up b2 (Nat.le_of_eq HQQ.out.symm)).setCell (p := ⟨q, 0, none⟩) (Nat.le_refl _) _).setCell (p := ⟨q, 1, none⟩) (Nat.le_refl _) _
    exact bodyPost_ret (v := .tuple #[.slice none 0 0, .agg #[.int .i64 0, .int .i64 0], .int .i64 4]) (by simp [results, Tryz.results28, go_sem, kk.cell]) rfl (by
      show _ ∧ _ ∧ _
      exact ⟨by decide, rfl, by rw [HQQ.out]; exact bz⟩)
  · rw [if_neg hbig]
    have e1 : ¬ (40000 : Int) < (s.size : Int) := by omega
    go_enter Tryz.func28, Tryz.ntmps28
    go_upto_region 1 with fail
    rw [HW0.out, HQQ.out]
    go_wp2_with fail
    rw [HBQ.out, HW1.out]
    refine F1.out.mono ?_; rintro e w2 ⟨lo, lcap, rfl, hos, b2⟩
    have T2 := Lib.hid (Stp.refl b w2)
    have S2 : Hid (Stt b w2 (some ⟨b, 0, none⟩) 0 []) := Lib.hid (.inl ⟨rfl, r1.later b2⟩)
    have OS2 := Lib.hid hos
    have K1 := Lib.hid (k1.later b2)
    have hbs2 : b ≤ w2.heap.size := Nat.le_trans hbs b2.size
    have HB0 := Lib.hid (HB0.out.up b2 (Nat.le_of_eq HQQ.out.symm))
    have hrd0 : Hid (readF 0 [] L = readF 0 (([] : List (Hd × Rd)).map Prod.snd) (L.drop 0)) := Lib.hid rfl
    have hsm0 : Hid (Sml 0 (([] : List (Hd × Rd)).map Prod.snd)) := Lib.hid ⟨Nat.le_refl _, fun _ h => by cases h⟩
    clear F1 b2 hos k1 r1
    go_wp2_with fail
    go_loopw [5, 7] (fun ov iv wr => ∃ (k : Nat) (ao : Option Addr) (cap : Nat) (l : List (Hd × Rd)), iv = .int .i64 k ∧ k ≤ L.length ∧ ov = .slice ao l.length cap ∧ l.length ≤ 10000 ∧ Hid (Stt b wr ao cap l) ∧ Hid (readF 0 [] L = readF k (l.map Prod.snd) (L.drop k)) ∧ Hid (Sml k (l.map Prod.snd)) ∧ Hid (Stp b w2 wr)) (fun _ iv _ => L.length - (intOf iv).toNat)
    case atStart => exact ⟨0, _, _, [], rfl, Nat.zero_le _, rfl, Nat.zero_le _, S2, hrd0, hsm0, T2⟩
    case round =>
      obtain ⟨k, ao, cap, l, rfl, hk, rfl, hl, hS, hI, hM, hT⟩ := hrel
      have hO := Lib.hid (os_keep OS2.out hT.out.keep)
      clear S2 hrd0 hsm0 T2
      have e0 : (0 : Int) ≤ (k : Int) := by omega
      have hk5 : k ≤ 50001 := by omega
      have hbw : b ≤ wr.heap.size := Nat.le_trans hbs2 hT.out.bel.size
      have kq := K1.out.below hT.out.bel hq0
      by_cases hlt : k < L.length
      · have e2 : (k : Int) < (L.length : Int) := by omega
        have s1 : IntKind.i64.wrap ((k : Int) + 1) = ((k + 1 : Nat) : Int) := by rw [IntWalk.i64_in _ (by omega)]; omega
        have hdr : L.drop k = L[k] :: L.drop (k + 1) := List.drop_eq_getElem_cons hlt
        have hxl := HLL.out L[k] (List.getElem_mem hlt)
        obtain ⟨gl, egl, hgl, dl⟩ := os_at hO.out k hlt
        have hI2 := hI.out
        rw [hdr] at hI2
        generalize L[k] = x at *
        have HI := Lib.hid hI2
        subst egl
        clear hdr hI2 hI
        have hr := Below.refl wr.heap.size wr
        have FI := yIdle (bt x) wr
        have et : (bt x).data.toList = x := rfl
        rw [et, idle_same] at FI
        cases hid : idleL x
        · rw [hid] at FI
          have FI := Lib.hid FI
          have hx0 : x ≠ [] := fun e => by rw [e] at hid; cases hid
          have FR := gRead (bt x) l ao cap b k wr (by show x.length ≤ _; omega) hx0 hS.out hM.out (by omega) hl hbw
          rw [et] at FR
          have FR := Lib.hid FR
          have HID := Lib.hid hid
          have HX0 := Lib.hid hx0
          clear hx0 et hid
          go_wp2_with fail
          refine FI.out.mono ?_; rintro e w3 ⟨rfl, rfl⟩
          cases hX : lineR (l.map Prod.snd) x with
          | error p =>
            obtain ⟨c8, e8⟩ := p
            rw [hX] at FR
            have hc8 := line_col HX0.out (by omega) hX
            have s8 : IntKind.i64.wrap ((c8 : Int) + 1) = ((c8 + 1 : Nat) : Int) := by rw [IntWalk.i64_in _ (by omega)]; omega
            have HE := Lib.hid (rd_err (k := k) (rs := l.map Prod.snd) (L := L.drop (k + 1)) HID.out hX)
            clear hX
            go_wp2_with fail
            refine FR.out.mono ?_; rintro e w8 ⟨t8, ne8, v8, rfl⟩
            have heb := ne_b ne8
            have k8 := kq.below t8.bel hq0
            have HT8 := Lib.hid (hT.out.trans t8)
            have d0 := k8.at2
            clear dl hr kq t8 FI FR
            have hr := Below.refl w8.heap.size w8
            have HN8 := Lib.hid ne8
            go_wp2_with fail
            have kk : Blk ((w8.setCell ⟨q, 0, none⟩ (.int .i64 ((k : Int) + 1))).setCell ⟨q, 1, none⟩ (.int .i64 ((c8 : Int) + 1))) q 49 #[.int .i64 ((k : Int) + 1), .int .i64 ((c8 : Int) + 1)] := by
              have := (k8.set_ 0 (.int .i64 ((k : Int) + 1))).set_ 1 (.int .i64 ((c8 : Int) + 1))
              simpa using this
            have bz : Below q w ((w8.setCell ⟨q, 0, none⟩ (.int .i64 ((k : Int) + 1))).setCell ⟨q, 1, none⟩ (.int .i64 ((c8 : Int) + 1))) := ((HB0.out.trans (HT8.out.bel.mono (Nat.le_of_lt hq0))).setCell (p := ⟨q, 0, none⟩) (Nat.le_refl _) _).setCell (p := ⟨q, 1, none⟩) (Nat.le_refl _) _
            exact bodyPost_ret (v := .tuple #[.slice none 0 0, .agg #[.int .i64 ((k : Int) + 1), .int .i64 ((c8 : Int) + 1)], .int .i64 e8]) (by simp [results, Tryz.results28, go_sem, kk.cell]) rfl (by
              show RdPost w (readF 0 [] L) _ _
              rw [HI.out, HE.out]
              exact ⟨HN8.out, rfl, by rw [HQQ.out]; exact bz⟩)
          | ok rs8 =>
            rw [hX] at FR
            have HE := Lib.hid (rd_ok (k := k) (L := L.drop (k + 1)) HID.out hX)
            clear hX
            go_wp2_with fail
            refine FR.out.mono ?_; rintro e w8 ⟨t8, hM8, hn8, ao8, cap8, l8, rfl, rfl, hS8⟩
            have HT8 := Lib.hid (hT.out.trans t8)
            have HS8 := Lib.hid hS8
            have HM8 := Lib.hid hM8
            have HI8 := Lib.hid (HI.out.trans HE.out)
            have hn9 : l8.length ≤ 10000 := by rw [List.length_map] at hn8; exact hn8
            clear dl hr kq t8 FI FR hS8 hM8 hS hM hT hO hn8
            go_wp2_with fail
            go_roundw
            case rel => exact ⟨k + 1, ao8, cap8, l8, by go_num, by omega, rfl, hn9, HS8, HI8, HM8, HT8⟩
            case measure => simp [intOf]; omega
        · rw [hid] at FI
          have FI := Lib.hid FI
          have HI8 := Lib.hid (HI.out.trans (rd_idle hid))
          have HM8 := Lib.hid (sml_more hM.out)
          clear hid et
          go_wp2_with fail
          refine FI.out.mono ?_; rintro e w3 ⟨rfl, rfl⟩
          go_wp2_with fail
          clear hr kq dl
          go_roundw
          case rel => exact ⟨k + 1, ao, cap, l, by go_num, by omega, rfl, hl, hS, HI8, HM8, hT⟩
          case measure => simp [intOf]; omega
      · obtain rfl : k = L.length := by omega
        have e2 : ¬ ((L.length : Int) < (L.length : Int)) := by omega
        have hrr : readF 0 [] L = .ok (l.map Prod.snd) := by rw [hI.out, List.drop_length]; rfl
        have HRR := Lib.hid hrr
        have dq := kq.at2
        have hr := Below.refl wr.heap.size wr
        have hml : Sml 100000 (l.map Prod.snd) := ⟨Nat.le_trans hM.out.1 (by omega), fun r hr => ⟨Nat.le_trans (hM.out.2 r hr).1 (by omega), Nat.le_trans (hM.out.2 r hr).2.1 (by omega), Nat.le_trans (hM.out.2 r hr).2.2 (by omega)⟩⟩
        have HML := Lib.hid hml
        clear hrr hml hI
        go_wp2_with fail
        have kk : Blk ((wr.setCell ⟨q, 0, none⟩ (.int .i64 0)).setCell ⟨q, 1, none⟩ (.int .i64 0)) q 49 #[.int .i64 0, .int .i64 0] := by
          have := (kq.set_ 0 (.int .i64 0)).set_ 1 (.int .i64 0)
          simpa using this
        have bz : Below q w ((wr.setCell ⟨q, 0, none⟩ (.int .i64 0)).setCell ⟨q, 1, none⟩ (.int .i64 0)) := ((HB0.out.trans (hT.out.bel.mono (Nat.le_of_lt hq0))).setCell (p := ⟨q, 0, none⟩) (Nat.le_refl _) _).setCell (p := ⟨q, 1, none⟩) (Nat.le_refl _) _
        have gz : wr.grownBy ((wr.setCell ⟨q, 0, none⟩ (.int .i64 0)).setCell ⟨q, 1, none⟩ (.int .i64 0)) (some q) := only_setCell (p := ⟨q, 1, none⟩) (only_setCell (p := ⟨q, 0, none⟩) (only_below (Below.refl _ _) _) (.inl rfl) _) (.inl rfl) _
        have RZ := hS.out.rnds.off kq gz (by decide) (by decide) (by decide) (by decide)
        exact bodyPost_ret (v := .tuple #[.slice ao l.length cap, .agg #[.int .i64 0, .int .i64 0], .int .i64 0]) (by simp [results, Tryz.results28, go_sem, kk.cell]) rfl (by
          show RdPost w (readF 0 [] L) _ _
          rw [HRR.out]
          exact ⟨HML.out, ao, cap, l, rfl, rfl, by rw [HQQ.out]; exact RZ.lower (Nat.le_of_lt hq0), by rw [HQQ.out]; exact bz⟩)
end Go.Proofs.YtmnkekepccdlcaaGreatDoor
