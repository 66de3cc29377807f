/-
  What is wrong of a line of rounds by its first word.
  Conditions: the reader's block is known whole; its rounds lie in a row.
-/
import Derived.Test.YtmnkekepccdlcaaGreatDoorWorldB
namespace Go.Proofs.YtmnkekepccdlcaaGreatDoor
set_option linter.unusedVariables false
set_option linter.unusedSimpArgs false
open Go.RowKit

theorem place_bad {rs : List Rd} {x : Wd} (h : x.quoted = true ∨ ¬ x.text ∈ kWords) : placeT rs x = 11 := by unfold placeT; rw [if_pos h]
theorem place_tick (rs : List Rd) (p : Nat) : placeT rs ⟨kTick, false, p⟩ = if rs.length = 10000 then 4 else 0 := by
  unfold placeT
  have h1 : ¬ ((⟨kTick, false, p⟩ : Wd).quoted = true ∨ ¬ kTick ∈ kWords) := by rintro (h | h); cases h; exact h (by decide)
  rw [if_neg h1]
  by_cases h : rs.length = 10000
  · rw [if_pos ⟨rfl, h⟩, if_pos h]
  · rw [if_neg (fun e => h e.2), if_neg (fun e => e.1 rfl), if_neg (by
      rintro (⟨h, _⟩ | ⟨h, _⟩)
      · exact absurd h (show ¬ kTick = kDrain by decide)
      · exact absurd h (show ¬ kTick = kAbort by decide)), if_neg h]
theorem place_other (rs : List Rd) (t : List UInt8) (p : Nat) (ht : t ∈ kWords) (h0 : t ≠ kTick) : placeT rs ⟨t, false, p⟩ = if rs.length = 0 then 8 else if (t = kDrain ∧ 0 < (rs.getLast?.getD rd0).drain) ∨ (t = kAbort ∧ (rs.getLast?.getD rd0).abort = true) then 6 else 0 := by
  unfold placeT
  have h1 : ¬ ((⟨t, false, p⟩ : Wd).quoted = true ∨ ¬ t ∈ kWords) := by rintro (h | h); cases h; exact h ht
  rw [if_neg h1, if_neg (fun e => h0 e.1)]
  by_cases h : rs.length = 0
  · rw [if_pos ⟨h0, h⟩, if_pos h]
  · rw [if_neg (fun e => h e.2), if_neg h]
def nine : List ByteArray := [⟨#[116, 105, 99, 107]⟩, ⟨#[111, 112, 101, 110]⟩, ⟨#[111, 102, 102, 101, 114]⟩, ⟨#[99, 108, 111, 115, 101]⟩, ⟨#[114, 101, 97, 100]⟩, ⟨#[119, 114, 105, 116, 101]⟩, ⟨#[98, 111, 116, 104]⟩, ⟨#[100, 114, 97, 105, 110]⟩, ⟨#[97, 98, 111, 114, 116]⟩]
theorem cells9 (w : World) : ∀ j, j < nine.length → (w.alloc (.cells #[.string ⟨#[116, 105, 99, 107]⟩, .string ⟨#[111, 112, 101, 110]⟩, .string ⟨#[111, 102, 102, 101, 114]⟩, .string ⟨#[99, 108, 111, 115, 101]⟩, .string ⟨#[114, 101, 97, 100]⟩, .string ⟨#[119, 114, 105, 116, 101]⟩, .string ⟨#[98, 111, 116, 104]⟩, .string ⟨#[100, 114, 97, 105, 110]⟩, .string ⟨#[97, 98, 111, 114, 116]⟩] 9)).cell? ⟨w.heap.size, 0 + j, none⟩ = some (.string (nine.getD j ByteArray.empty)) := by
  intro j hj
  have := (Blk.new w 9 #[.string ⟨#[116, 105, 99, 107]⟩, .string ⟨#[111, 112, 101, 110]⟩, .string ⟨#[111, 102, 102, 101, 114]⟩, .string ⟨#[99, 108, 111, 115, 101]⟩, .string ⟨#[114, 101, 97, 100]⟩, .string ⟨#[119, 114, 105, 116, 101]⟩, .string ⟨#[98, 111, 116, 104]⟩, .string ⟨#[100, 114, 97, 105, 110]⟩, .string ⟨#[97, 98, 111, 114, 116]⟩]).cell (0 + j)
  rw [this]
  match j, hj with
  | 0, _ => rfl
  | 1, _ => rfl
  | 2, _ => rfl
  | 3, _ => rfl
  | 4, _ => rfl
  | 5, _ => rfl
  | 6, _ => rfl
  | 7, _ => rfl
  | 8, _ => rfl
theorem nine_mem (x : List UInt8) : Lib.containsS (nine.take 9) (bt x) = decide (x ∈ kWords) := by
  have h : Lib.containsS (nine.take 9) (bt x) = true ↔ x ∈ kWords := by
    rw [Lib.containsS_iff]
    constructor
    · intro h
      simp only [nine, List.take_succ_cons, List.take_zero, List.mem_cons, List.not_mem_nil, or_false] at h
      have hb : ∀ l : List UInt8, bt x = ⟨l.toArray⟩ → x = l := fun l e => by
        have := congrArg (fun b : ByteArray => b.data.toList) e
        simpa using this
      rcases h with h | h | h | h | h | h | h | h | h <;> (rw [hb _ h]; decide)
    · intro h
      simp only [kWords, List.mem_cons, List.not_mem_nil, or_false] at h
      rcases h with rfl | rfl | rfl | rfl | rfl | rfl | rfl | rfl | rfl <;> simp [nine, kTick, kOpen, kOffer, kClose, kRead, kWrite, kBoth, kDrain, kAbort]
  cases hc : Lib.containsS (nine.take 9) (bt x) with
  | true => rw [decide_eq_true (h.1 hc)]
  | false => rw [decide_eq_false (fun e => by rw [h.2 e] at hc; cases hc)]

set_option maxHeartbeats 4000000 in
set_option maxRecDepth 100000 in
theorem rPlace (x : Wd) (l : List (Hd × Rd)) (ao : Option Addr) (cap B b len : Nat) (u : Value) (s : Rs) (w : World) (h : Rdr w b (.slice ao l.length cap) u len s) (hl : Rnds B w ao cap l) (hn : l.length ≤ 1000000) :
    Calls Tryz.prog 84 #[.pointer (some ⟨b, 0, none⟩), .agg (wcells x).toArray] w fun e w' => e = .returned (.int .i64 (placeT (l.map Prod.snd) x)) ∧ Below w.heap.size w w' := by
  obtain ⟨tx, qx, px⟩ := x
  simp only [wcells]
  obtain ⟨w0, hw0⟩ : ∃ w0, w.alloc (.cells #[.string (bt tx), .bool qx, .int .i64 (px : Nat)] 110) = w0 := ⟨_, rfl⟩
  have k0 : Blk w0 w.heap.size 110 #[.string (bt tx), .bool qx, .int .i64 (px : Nat)] := by rw [← hw0]; exact Blk.new _ _ _
  have b0 : Below w.heap.size w w0 := by rw [← hw0]; exact (Below.refl _ _).alloc (Nat.le_refl _) _
  have h0 := Blk.later h b0
  have L0 := hl.later b0
  generalize hq : w.heap.size = q at *
  have HW0 := Lib.hid hw0
  have HQ := Lib.hid hq
  have hqs : q ≤ w0.heap.size := Nat.le_of_lt k0.lt
  clear hw0 hq h hl
  have d0 := h0.at6
  have dk := k0.at3
  have hr := Below.refl w0.heap.size w0
  cases qx
  · have F : Hid (∀ w' : World, Calls Tryz.prog 117 #[.slice (some ⟨w'.heap.size, 0, none⟩) 9 9, .string (bt tx)] (w'.alloc (.cells #[.string ⟨#[116, 105, 99, 107]⟩, .string ⟨#[111, 112, 101, 110]⟩, .string ⟨#[111, 102, 102, 101, 114]⟩, .string ⟨#[99, 108, 111, 115, 101]⟩, .string ⟨#[114, 101, 97, 100]⟩, .string ⟨#[119, 114, 105, 116, 101]⟩, .string ⟨#[98, 111, 116, 104]⟩, .string ⟨#[100, 114, 97, 105, 110]⟩, .string ⟨#[97, 98, 111, 114, 116]⟩] 9)) fun e w'' => e = .returned (.bool (decide (tx ∈ kWords))) ∧ w'' = w'.alloc (.cells #[.string ⟨#[116, 105, 99, 107]⟩, .string ⟨#[111, 112, 101, 110]⟩, .string ⟨#[111, 102, 102, 101, 114]⟩, .string ⟨#[99, 108, 111, 115, 101]⟩, .string ⟨#[114, 101, 97, 100]⟩, .string ⟨#[119, 114, 105, 116, 101]⟩, .string ⟨#[98, 111, 116, 104]⟩, .string ⟨#[100, 114, 97, 105, 110]⟩, .string ⟨#[97, 98, 111, 114, 116]⟩] 9)) := Lib.hid fun w' => by
      have := Tryz.slices_Contains_string w'.heap.size 0 9 9 nine (bt tx) (w'.alloc (.cells #[.string ⟨#[116, 105, 99, 107]⟩, .string ⟨#[111, 112, 101, 110]⟩, .string ⟨#[111, 102, 102, 101, 114]⟩, .string ⟨#[99, 108, 111, 115, 101]⟩, .string ⟨#[114, 101, 97, 100]⟩, .string ⟨#[119, 114, 105, 116, 101]⟩, .string ⟨#[98, 111, 116, 104]⟩, .string ⟨#[100, 114, 97, 105, 110]⟩, .string ⟨#[97, 98, 111, 114, 116]⟩] 9)) (Nat.le_refl _) (by decide) (cells9 w')
      rw [nine_mem] at this
      exact this
    by_cases hm : tx ∈ kWords
    · rw [decide_eq_true hm] at F
      by_cases hc : tx = kTick
      · subst hc
        rw [place_tick, List.length_map]
        have f1 : (kTick == [116, 105, 99, 107]) = true := by decide
        have f2 : (kTick == [100, 114, 97, 105, 110]) = false := by decide
        have f3 : (kTick == [97, 98, 111, 114, 116]) = false := by decide
        by_cases c : l.length = 10000
        · have c1 : ((l.length : Int) == 10000) = true := beq_iff_eq.2 (by omega)
          have c2 : (l.length : Int) = 10000 := by omega
          rw [if_pos c]
          go_enter Tryz.func84, Tryz.ntmps84
          go_upto_region 1 with fail
          rw [HW0.out, HQ.out]
          have hr2 : Below w0.heap.size w0 (w0.alloc (.cells #[.string ⟨#[116, 105, 99, 107]⟩, .string ⟨#[111, 112, 101, 110]⟩, .string ⟨#[111, 102, 102, 101, 114]⟩, .string ⟨#[99, 108, 111, 115, 101]⟩, .string ⟨#[114, 101, 97, 100]⟩, .string ⟨#[119, 114, 105, 116, 101]⟩, .string ⟨#[98, 111, 116, 104]⟩, .string ⟨#[100, 114, 97, 105, 110]⟩, .string ⟨#[97, 98, 111, 114, 116]⟩] 9)) := (Below.refl _ _).alloc (Nat.le_refl _) _
          go_wp2_with fail
          refine (F.out w0).mono ?_; rintro e w1 ⟨rfl, hw1⟩
          have b1 : Below w0.heap.size w0 w1 := by rw [hw1]; exact (Below.refl _ _).alloc (Nat.le_refl _) _
          have bb := b0.up b1 (Nat.le_of_eq HQ.out.symm)
          have h1 := Blk.later h0 b1
          have k1 := k0.later b1
          clear hw1 d0 dk hr hr2 h0 k0 b0 b1 L0
          have d0 := h1.at6
          have dk := k1.at3
          have hr := Below.refl w1.heap.size w1
          go_wp2_with fail
          go_ret
          exact ⟨rfl, bb⟩
        · have c1 : ((l.length : Int) == 10000) = false := ne_b (by omega)
          have c2 : ¬ (l.length : Int) = 10000 := by omega
          rw [if_neg c]
          go_enter Tryz.func84, Tryz.ntmps84
          go_upto_region 1 with fail
          rw [HW0.out, HQ.out]
          have hr2 : Below w0.heap.size w0 (w0.alloc (.cells #[.string ⟨#[116, 105, 99, 107]⟩, .string ⟨#[111, 112, 101, 110]⟩, .string ⟨#[111, 102, 102, 101, 114]⟩, .string ⟨#[99, 108, 111, 115, 101]⟩, .string ⟨#[114, 101, 97, 100]⟩, .string ⟨#[119, 114, 105, 116, 101]⟩, .string ⟨#[98, 111, 116, 104]⟩, .string ⟨#[100, 114, 97, 105, 110]⟩, .string ⟨#[97, 98, 111, 114, 116]⟩] 9)) := (Below.refl _ _).alloc (Nat.le_refl _) _
          go_wp2_with fail
          refine (F.out w0).mono ?_; rintro e w1 ⟨rfl, hw1⟩
          have b1 : Below w0.heap.size w0 w1 := by rw [hw1]; exact (Below.refl _ _).alloc (Nat.le_refl _) _
          have bb := b0.up b1 (Nat.le_of_eq HQ.out.symm)
          have h1 := Blk.later h0 b1
          have k1 := k0.later b1
          clear hw1 d0 dk hr hr2 h0 k0 b0 b1 L0
          have d0 := h1.at6
          have dk := k1.at3
          have hr := Below.refl w1.heap.size w1
          go_wp2_with fail
          go_ret
          exact ⟨rfl, bb⟩
      · rw [place_other _ _ _ hm hc, List.length_map]
        have f1 : (tx == [116, 105, 99, 107]) = false := beq_eq_false_iff_ne.2 hc
        by_cases c : l.length = 0
        · have c1 : ((l.length : Int) == 0) = true := beq_iff_eq.2 (by omega)
          have c2 : (l.length : Int) = 0 := by omega
          rw [if_pos c]
          clear hc
          go_enter Tryz.func84, Tryz.ntmps84
          go_upto_region 1 with fail
          rw [HW0.out, HQ.out]
          have hr2 : Below w0.heap.size w0 (w0.alloc (.cells #[.string ⟨#[116, 105, 99, 107]⟩, .string ⟨#[111, 112, 101, 110]⟩, .string ⟨#[111, 102, 102, 101, 114]⟩, .string ⟨#[99, 108, 111, 115, 101]⟩, .string ⟨#[114, 101, 97, 100]⟩, .string ⟨#[119, 114, 105, 116, 101]⟩, .string ⟨#[98, 111, 116, 104]⟩, .string ⟨#[100, 114, 97, 105, 110]⟩, .string ⟨#[97, 98, 111, 114, 116]⟩] 9)) := (Below.refl _ _).alloc (Nat.le_refl _) _
          go_wp2_with fail
          refine (F.out w0).mono ?_; rintro e w1 ⟨rfl, hw1⟩
          have b1 : Below w0.heap.size w0 w1 := by rw [hw1]; exact (Below.refl _ _).alloc (Nat.le_refl _) _
          have bb := b0.up b1 (Nat.le_of_eq HQ.out.symm)
          have h1 := Blk.later h0 b1
          have k1 := k0.later b1
          clear hw1 d0 dk hr hr2 h0 k0 b0 b1 L0
          have d0 := h1.at6
          have dk := k1.at3
          have hr := Below.refl w1.heap.size w1
          go_wp2_with fail
          go_ret
          exact ⟨rfl, bb⟩
        · have c1 : ((l.length : Int) == 0) = false := ne_b (by omega)
          have c2 : ¬ (l.length : Int) = 0 := by omega
          have s1 : IntKind.i64.wrap ((l.length : Int) - 1) = ((l.length - 1 : Nat) : Int) := by rw [IntWalk.i64_in _ (by omega)]; omega
          have e1 : (0 : Int) ≤ ((l.length - 1 : Nat) : Int) := by omega
          have e2 : ((l.length - 1 : Nat) : Int) < (l.length : Int) := by omega
          have hlast : (l.map Prod.snd).getLast?.getD rd0 = (l[l.length - 1]'(by omega)).2 := by
            rw [List.getLast?_eq_getElem?, List.length_map, List.getElem?_map, List.getElem?_eq_getElem (by omega)]; rfl
          rw [if_neg c, hlast]
          obtain ⟨g, rfl, hg, dl⟩ := L0.at_ (l.length - 1) (by omega)
          generalize (l[l.length - 1]'(by omega)).1 = p1 at *
          generalize (l[l.length - 1]'(by omega)).2 = p2 at *
          clear hlast
          by_cases t1 : tx = kDrain
          · subst t1
            have f2 : (kDrain == [100, 114, 97, 105, 110]) = true := by decide
            have f3 : (kDrain == [97, 98, 111, 114, 116]) = false := by decide
            by_cases c3 : 0 < p2.drain
            · rw [if_pos (.inl ⟨rfl, c3⟩)]
              clear hc
              go_enter Tryz.func84, Tryz.ntmps84
              go_upto_region 1 with fail
              rw [HW0.out, HQ.out]
              have hr2 : Below w0.heap.size w0 (w0.alloc (.cells #[.string ⟨#[116, 105, 99, 107]⟩, .string ⟨#[111, 112, 101, 110]⟩, .string ⟨#[111, 102, 102, 101, 114]⟩, .string ⟨#[99, 108, 111, 115, 101]⟩, .string ⟨#[114, 101, 97, 100]⟩, .string ⟨#[119, 114, 105, 116, 101]⟩, .string ⟨#[98, 111, 116, 104]⟩, .string ⟨#[100, 114, 97, 105, 110]⟩, .string ⟨#[97, 98, 111, 114, 116]⟩] 9)) := (Below.refl _ _).alloc (Nat.le_refl _) _
              go_wp2_with fail
              refine (F.out w0).mono ?_; rintro e w1 ⟨rfl, hw1⟩
              have b1 : Below w0.heap.size w0 w1 := by rw [hw1]; exact (Below.refl _ _).alloc (Nat.le_refl _) _
              have bb := b0.up b1 (Nat.le_of_eq HQ.out.symm)
              have dl := fun w' (hw : Below w1.heap.size w1 w') => dl w' (b1.up hw)
              have h1 := Blk.later h0 b1
              have k1 := k0.later b1
              clear hw1 d0 dk hr hr2 h0 k0 b0 b1 L0
              have d0 := h1.at6
              have dk := k1.at3
              have hr := Below.refl w1.heap.size w1
              go_wp2_with fail
              go_ret
              exact ⟨rfl, bb⟩
            · rw [if_neg (by
                rintro (⟨_, h⟩ | ⟨h, _⟩)
                · exact c3 h
                · exact absurd h (by decide))]
              clear hc
              go_enter Tryz.func84, Tryz.ntmps84
              go_upto_region 1 with fail
              rw [HW0.out, HQ.out]
              have hr2 : Below w0.heap.size w0 (w0.alloc (.cells #[.string ⟨#[116, 105, 99, 107]⟩, .string ⟨#[111, 112, 101, 110]⟩, .string ⟨#[111, 102, 102, 101, 114]⟩, .string ⟨#[99, 108, 111, 115, 101]⟩, .string ⟨#[114, 101, 97, 100]⟩, .string ⟨#[119, 114, 105, 116, 101]⟩, .string ⟨#[98, 111, 116, 104]⟩, .string ⟨#[100, 114, 97, 105, 110]⟩, .string ⟨#[97, 98, 111, 114, 116]⟩] 9)) := (Below.refl _ _).alloc (Nat.le_refl _) _
              go_wp2_with fail
              refine (F.out w0).mono ?_; rintro e w1 ⟨rfl, hw1⟩
              have b1 : Below w0.heap.size w0 w1 := by rw [hw1]; exact (Below.refl _ _).alloc (Nat.le_refl _) _
              have bb := b0.up b1 (Nat.le_of_eq HQ.out.symm)
              have dl := fun w' (hw : Below w1.heap.size w1 w') => dl w' (b1.up hw)
              have h1 := Blk.later h0 b1
              have k1 := k0.later b1
              clear hw1 d0 dk hr hr2 h0 k0 b0 b1 L0
              have d0 := h1.at6
              have dk := k1.at3
              have hr := Below.refl w1.heap.size w1
              go_wp2_with fail
              go_ret
              exact ⟨rfl, bb⟩
          · have f2 : (tx == [100, 114, 97, 105, 110]) = false := beq_eq_false_iff_ne.2 t1
            by_cases t2 : tx = kAbort
            · subst t2
              have f3 : (kAbort == [97, 98, 111, 114, 116]) = true := by decide
              cases c3 : p2.abort
              · rw [if_neg (by
                  rintro (⟨h, _⟩ | ⟨_, h⟩)
                  · exact t1 h
                  · cases h)]
                rw [c3] at dl
                clear hc t1
                go_enter Tryz.func84, Tryz.ntmps84
                go_upto_region 1 with fail
                rw [HW0.out, HQ.out]
                have hr2 : Below w0.heap.size w0 (w0.alloc (.cells #[.string ⟨#[116, 105, 99, 107]⟩, .string ⟨#[111, 112, 101, 110]⟩, .string ⟨#[111, 102, 102, 101, 114]⟩, .string ⟨#[99, 108, 111, 115, 101]⟩, .string ⟨#[114, 101, 97, 100]⟩, .string ⟨#[119, 114, 105, 116, 101]⟩, .string ⟨#[98, 111, 116, 104]⟩, .string ⟨#[100, 114, 97, 105, 110]⟩, .string ⟨#[97, 98, 111, 114, 116]⟩] 9)) := (Below.refl _ _).alloc (Nat.le_refl _) _
                go_wp2_with fail
                refine (F.out w0).mono ?_; rintro e w1 ⟨rfl, hw1⟩
                have b1 : Below w0.heap.size w0 w1 := by rw [hw1]; exact (Below.refl _ _).alloc (Nat.le_refl _) _
                have bb := b0.up b1 (Nat.le_of_eq HQ.out.symm)
                have dl := fun w' (hw : Below w1.heap.size w1 w') => dl w' (b1.up hw)
                have h1 := Blk.later h0 b1
                have k1 := k0.later b1
                clear hw1 d0 dk hr hr2 h0 k0 b0 b1 L0
                have d0 := h1.at6
                have dk := k1.at3
                have hr := Below.refl w1.heap.size w1
                go_wp2_with fail
                go_ret
                exact ⟨rfl, bb⟩
              · rw [if_pos (.inr ⟨rfl, rfl⟩)]
                rw [c3] at dl
                clear hc t1
                go_enter Tryz.func84, Tryz.ntmps84
                go_upto_region 1 with fail
                rw [HW0.out, HQ.out]
                have hr2 : Below w0.heap.size w0 (w0.alloc (.cells #[.string ⟨#[116, 105, 99, 107]⟩, .string ⟨#[111, 112, 101, 110]⟩, .string ⟨#[111, 102, 102, 101, 114]⟩, .string ⟨#[99, 108, 111, 115, 101]⟩, .string ⟨#[114, 101, 97, 100]⟩, .string ⟨#[119, 114, 105, 116, 101]⟩, .string ⟨#[98, 111, 116, 104]⟩, .string ⟨#[100, 114, 97, 105, 110]⟩, .string ⟨#[97, 98, 111, 114, 116]⟩] 9)) := (Below.refl _ _).alloc (Nat.le_refl _) _
                go_wp2_with fail
                refine (F.out w0).mono ?_; rintro e w1 ⟨rfl, hw1⟩
                have b1 : Below w0.heap.size w0 w1 := by rw [hw1]; exact (Below.refl _ _).alloc (Nat.le_refl _) _
                have bb := b0.up b1 (Nat.le_of_eq HQ.out.symm)
                have dl := fun w' (hw : Below w1.heap.size w1 w') => dl w' (b1.up hw)
                have h1 := Blk.later h0 b1
                have k1 := k0.later b1
                clear hw1 d0 dk hr hr2 h0 k0 b0 b1 L0
                have d0 := h1.at6
                have dk := k1.at3
                have hr := Below.refl w1.heap.size w1
                go_wp2_with fail
                go_ret
                exact ⟨rfl, bb⟩
            · have f3 : (tx == [97, 98, 111, 114, 116]) = false := beq_eq_false_iff_ne.2 t2
              rw [if_neg (by
                rintro (⟨h, _⟩ | ⟨h, _⟩)
                · exact t1 h
                · exact t2 h)]
              clear hc t1 t2
              go_enter Tryz.func84, Tryz.ntmps84
              go_upto_region 1 with fail
              rw [HW0.out, HQ.out]
              have hr2 : Below w0.heap.size w0 (w0.alloc (.cells #[.string ⟨#[116, 105, 99, 107]⟩, .string ⟨#[111, 112, 101, 110]⟩, .string ⟨#[111, 102, 102, 101, 114]⟩, .string ⟨#[99, 108, 111, 115, 101]⟩, .string ⟨#[114, 101, 97, 100]⟩, .string ⟨#[119, 114, 105, 116, 101]⟩, .string ⟨#[98, 111, 116, 104]⟩, .string ⟨#[100, 114, 97, 105, 110]⟩, .string ⟨#[97, 98, 111, 114, 116]⟩] 9)) := (Below.refl _ _).alloc (Nat.le_refl _) _
              go_wp2_with fail
              refine (F.out w0).mono ?_; rintro e w1 ⟨rfl, hw1⟩
              have b1 : Below w0.heap.size w0 w1 := by rw [hw1]; exact (Below.refl _ _).alloc (Nat.le_refl _) _
              have bb := b0.up b1 (Nat.le_of_eq HQ.out.symm)
              have dl := fun w' (hw : Below w1.heap.size w1 w') => dl w' (b1.up hw)
              have h1 := Blk.later h0 b1
              have k1 := k0.later b1
              clear hw1 d0 dk hr hr2 h0 k0 b0 b1 L0
              have d0 := h1.at6
              have dk := k1.at3
              have hr := Below.refl w1.heap.size w1
              go_wp2_with fail
              go_ret
              exact ⟨rfl, bb⟩
    · rw [place_bad (.inr hm)]
      rw [decide_eq_false hm] at F
      go_enter Tryz.func84, Tryz.ntmps84
      go_upto_region 1 with fail
      rw [HW0.out, HQ.out]
      have hr2 : Below w0.heap.size w0 (w0.alloc (.cells #[.string ⟨#[116, 105, 99, 107]⟩, .string ⟨#[111, 112, 101, 110]⟩, .string ⟨#[111, 102, 102, 101, 114]⟩, .string ⟨#[99, 108, 111, 115, 101]⟩, .string ⟨#[114, 101, 97, 100]⟩, .string ⟨#[119, 114, 105, 116, 101]⟩, .string ⟨#[98, 111, 116, 104]⟩, .string ⟨#[100, 114, 97, 105, 110]⟩, .string ⟨#[97, 98, 111, 114, 116]⟩] 9)) := (Below.refl _ _).alloc (Nat.le_refl _) _
      go_wp2_with fail
      refine (F.out w0).mono ?_; rintro e w1 ⟨rfl, hw1⟩
      have b1 : Below w0.heap.size w0 w1 := by rw [hw1]; exact (Below.refl _ _).alloc (Nat.le_refl _) _
      have bb := b0.up b1 (Nat.le_of_eq HQ.out.symm)
      have h1 := Blk.later h0 b1
      have k1 := k0.later b1
      clear hw1 d0 dk hr hr2 h0 k0 b0 b1 L0
      have d0 := h1.at6
      have dk := k1.at3
      have hr := Below.refl w1.heap.size w1
      go_wp2_with fail
      go_ret
      exact ⟨rfl, bb⟩
  · rw [place_bad (.inl rfl)]
    go_enter Tryz.func84, Tryz.ntmps84
    go_upto_region 1 with fail
    rw [HW0.out, HQ.out]
    go_wp2_with fail
    go_ret
    exact ⟨rfl, b0⟩
end Go.Proofs.YtmnkekepccdlcaaGreatDoor
