/-
  The reader of rounds: a number, what a peer sends, what the poller tells.
  Conditions: the reader's block is known whole; the line's words lie in a row; the error of range stands in its variable.
-/
import Derived.Test.YtmnkekepccdlcaaGreatDoorWorldA
namespace Go.Proofs.YtmnkekepccdlcaaGreatDoor
set_option linter.unusedVariables false
set_option linter.unusedSimpArgs false
open Go.RowKit

theorem range_grown {w w' : World} {b : Nat} (h : RangeV w) (hg : w.grownBy w' (some b)) (hb : 5 < b) : RangeV w' := by
  obtain ⟨t, p, e⟩ := h
  exact ⟨t, p, World.grownBy.cell hg e (fun e => by have := Option.some.inj e; simp only at this; omega)⟩
/-- What is asked of a line's words: they lie in a row, and none is long. -/
structure Lin (B : Nat) (w : World) (wo : Option Addr) (wcap : Nat) (W : List Wd) (len : Nat) : Prop where
  row : OW 110 B w wo wcap W
  len : len ≤ 100000
  cnt : W.length ≤ 100000
  at_ : ∀ x ∈ W, x.place ≤ 100000 ∧ x.text.length ≤ 100000
theorem Lin.grown {B wcap len b : Nat} {w w' : World} {wo : Option Addr} {W : List Wd} {cs : Array Value} (h : Lin B w wo wcap W len) (hb : Blk w b 86 cs) (hg : w.grownBy w' (some b)) : Lin B w' wo wcap W len := ⟨ow_grown h.row hb hg, h.len, h.cnt, h.at_⟩
theorem Lin.later {B wcap len : Nat} {w w' : World} {wo : Option Addr} {W : List Wd} (h : Lin B w wo wcap W len) (hg : Below w.heap.size w w') : Lin B w' wo wcap W len := ⟨ow_later h.row hg, h.len, h.cnt, h.at_⟩
theorem Lin.same {B wcap len : Nat} {w w' : World} {wo : Option Addr} {W : List Wd} (h : Lin B w wo wcap W len) (hk : ∀ g, blkO wo = some g → w'.heap[g]? = w.heap[g]?) : Lin B w' wo wcap W len := ⟨orow_same h.row fun g hg => hk g (by rw [ownBlock_slice] at hg; exact hg), h.len, h.cnt, h.at_⟩
theorem wordS_facts {W : List Wd} {len : Nat} {s : Rs} {q : Bool} (h : ∀ x ∈ W, x.place ≤ 100000 ∧ x.text.length ≤ 100000) : (wordS W len s q).1.place ≤ 100000 ∧ (wordS W len s q).1.text.length ≤ 100000 ∧ (wordS W len s q).2.next ≤ s.next + 1 := by
  have hf : ∀ (s : Rs) k e, (failS s k e).next = s.next := fun s k e => by unfold failS; split <;> rfl
  unfold wordS
  cases hx : W[s.next]? with
  | none => simp [hf]
  | some x =>
    have := h x (List.mem_of_getElem? hx)
    refine ⟨this.1, this.2, ?_⟩
    simp only
    split
    · exact Nat.le_refl _
    · rw [hf]; exact Nat.le_refl _
theorem numberS_next {W : List Wd} {len : Nat} {s : Rs} {most : Int} (h : ∀ x ∈ W, x.place ≤ 100000 ∧ x.text.length ≤ 100000) : (numberS W len s most).2.next ≤ s.next + 1 := by
  have hf : ∀ (s : Rs) k e, (failS s k e).next = s.next := fun s k e => by unfold failS; split <;> rfl
  have := (wordS_facts (W := W) (len := len) (s := s) (q := false) h).2.2
  unfold numberS
  split
  · exact this
  · rw [hf]; exact this
theorem numberS_i64 {W : List Wd} {len : Nat} {s : Rs} {most : Int} (hm : i64 most) : i64 (numberS W len s most).1 := by
  unfold numberS
  split
  · unfold i64; simp
  · exact numW_i64 _ _ hm

set_option maxHeartbeats 4000000 in
theorem rNumber (W : List Wd) (wo : Option Addr) (wcap B b len : Nat) (v : Value) (s : Rs) (most : Int) (w : World) (h : Rdr w b v (.slice wo W.length wcap) len s) (hW : Lin B w wo wcap W len) (hn : s.next ≤ 100000) (hm : 0 ≤ most ∧ most ≤ 1000000000000) (hr : RangeV w) (hG : 5 < b) :
    Calls Tryz.prog 85 #[.pointer (some ⟨b, 0, none⟩), .int .i64 most] w fun x w' => x = .returned (.int .i64 (numberS W len s most).1) ∧ Rdr w' b v (.slice wo W.length wcap) len (numberS W len s most).2 ∧ w.grownBy w' (some b) := by
  have F1 := Lib.hid (rWord W wo wcap B b len v s false w h hW.row hW.len hW.cnt (fun x hx => (hW.at_ x hx).1) hn)
  obtain ⟨hp, ht, hnx⟩ := wordS_facts (W := W) (len := len) (s := s) (q := false) hW.at_
  unfold numberS
  generalize wordS W len s false = R at *
  obtain ⟨⟨tx, qx, px⟩, s1⟩ := R
  unfold wcells at F1
  simp only at hp ht hnx F1 ⊢
  have HR := Lib.hid hr
  clear h hW hr
  by_cases c0 : s1.bad = 0
  · rw [if_neg (fun e => e c0)]
    go_enter Tryz.func85, Tryz.ntmps85
    go_wp2_with fail
    refine F1.out.mono ?_; rintro e w1 ⟨rfl, h1, g1⟩
    have HR1 := range_grown HR.out g1 hG
    go_upto_region 2 with fail
    obtain ⟨w2, hw2⟩ : ∃ w2, w1.alloc (.cells #[.string (bt tx), .bool qx, .int .i64 (px : Nat)] 110) = w2 := ⟨_, rfl⟩
    have k2 : Blk w2 w1.heap.size 110 #[.string (bt tx), .bool qx, .int .i64 (px : Nat)] := by rw [← hw2]; exact Blk.new _ _ _
    have h2 : Rdr w2 b v (.slice wo W.length wcap) len s1 := by rw [← hw2]; exact Blk.alloc h1 _
    have b2 : Below w1.heap.size w1 w2 := by rw [← hw2]; exact (Below.refl _ _).alloc (Nat.le_refl _) _
    have g2 := only_trans g1 (only_below b2 (some b))
    have HR2 := range_later HR1 b2
    have n1 : w1.heap.size ≠ b := by have := h1.lt; omega
    rw [hw2]
    clear hw2 h1 g1 b2 HR1
    generalize w1.heap.size = q at *
    have d0 := h2.at6
    have dk := k2.at3
    have hr := Below.refl w2.heap.size w2
    rw [c0] at d0
    go_wp2_with fail
    refine (xNumber (bt tx) most w2 (by exact ht) hm HR2).mono ?_; rintro e w3 ⟨rfl, hb3⟩
    have h3 := h2.later hb3
    have k3 := k2.later hb3
    have g3 := only_trans g2 (only_below hb3 (some b))
    clear d0 dk hr h2 k2 g2
    have dk := k3.at3
    have hr := Below.refl w3.heap.size w3
    have et : (bt tx).data.toList = tx := rfl
    rw [et]
    clear et
    go_wp2_with fail
    refine (rFail b len px v _ s1 (numW most tx).2 w3 h3 (by omega)).mono ?_; rintro e w4 ⟨rfl, h4, g4⟩
    go_wp2_with fail
    go_ret
    exact ⟨rfl, h4, only_trans g3 g4⟩
  · rw [if_pos c0]
    have c0b := ne_b c0
    go_enter Tryz.func85, Tryz.ntmps85
    go_wp2_with fail
    refine F1.out.mono ?_; rintro e w1 ⟨rfl, h1, g1⟩
    go_upto_region 2 with fail
    obtain ⟨w2, hw2⟩ : ∃ w2, w1.alloc (.cells #[.string (bt tx), .bool qx, .int .i64 (px : Nat)] 110) = w2 := ⟨_, rfl⟩
    have h2 : Rdr w2 b v (.slice wo W.length wcap) len s1 := by rw [← hw2]; exact Blk.alloc h1 _
    have b2 : Below w1.heap.size w1 w2 := by rw [← hw2]; exact (Below.refl _ _).alloc (Nat.le_refl _) _
    have g2 := only_trans g1 (only_below b2 (some b))
    rw [hw2]
    clear hw2 h1 g1 b2
    have d0 := h2.at6
    have hr := Below.refl w2.heap.size w2
    go_wp2_with fail
    go_ret
    exact ⟨rfl, h2, g2⟩

def offerS (W : List Wd) (len : Nat) (s : Rs) (eof : Bool) : Off × Rs :=
  (⟨(numberS W len s 4095).1, bt (wordS W len (numberS W len s 4095).2 true).1.text, eof⟩,
   if 256 < (wordS W len (numberS W len s 4095).2 true).1.text.length then failS (wordS W len (numberS W len s 4095).2 true).2 (wordS W len (numberS W len s 4095).2 true).1.place 4 else (wordS W len (numberS W len s 4095).2 true).2)
def reportS (W : List Wd) (len : Nat) (s : Rs) (x : List UInt8) : Rep × Rs :=
  if x = kRead then (⟨(numberS W len s 4095).1, true, false, 0⟩, (numberS W len s 4095).2)
  else (⟨(numberS W len s 4095).1, decide (x ≠ kWrite), true, (numberS W len (numberS W len s 4095).2 4096).1⟩, (numberS W len (numberS W len s 4095).2 4096).2)
theorem only_set3 {a w : World} {b q : Nat} (h : a.grownBy w (some b)) (hq : a.heap.size ≤ q) (x y z : Value) : a.grownBy (((w.setCell ⟨q, 0, none⟩ x).setCell ⟨q, 1, none⟩ y).setCell ⟨q, 2, none⟩ z) (some b) :=
  only_setCell (p := ⟨q, 2, none⟩) (only_setCell (p := ⟨q, 1, none⟩) (only_setCell (p := ⟨q, 0, none⟩) h (.inr hq) _) (.inr hq) _) (.inr hq) _
theorem only_set4 {a w : World} {b q : Nat} (h : a.grownBy w (some b)) (hq : a.heap.size ≤ q) (x y z u : Value) : a.grownBy ((((w.setCell ⟨q, 0, none⟩ x).setCell ⟨q, 1, none⟩ y).setCell ⟨q, 2, none⟩ z).setCell ⟨q, 3, none⟩ u) (some b) :=
  only_setCell (p := ⟨q, 3, none⟩) (only_set3 h hq x y z) (.inr hq) _
theorem Blk.set4 {w : World} {g : Nat} {t : TypeId} {p q r s : Value} (h : Blk w g t #[p, q, r, s]) (x y z u : Value) : Blk ((((w.setCell ⟨g, 0, none⟩ x).setCell ⟨g, 1, none⟩ y).setCell ⟨g, 2, none⟩ z).setCell ⟨g, 3, none⟩ u) g t #[x, y, z, u] := by
  have := (((h.set_ 0 x).set_ 1 y).set_ 2 z).set_ 3 u
  simpa using this
theorem Blk.far4 {w : World} {g b : Nat} {t : TypeId} {cs : Array Value} (h : Blk w g t cs) (hb : g ≠ b) (x y z u : Value) : Blk ((((w.setCell ⟨b, 0, none⟩ x).setCell ⟨b, 1, none⟩ y).setCell ⟨b, 2, none⟩ z).setCell ⟨b, 3, none⟩ u) g t cs :=
  (h.far3 hb x y z).far (p := ⟨b, 3, none⟩) hb u

set_option maxHeartbeats 4000000 in
theorem rOffer (W : List Wd) (wo : Option Addr) (wcap B b len : Nat) (v : Value) (s : Rs) (eof : Bool) (w : World) (h : Rdr w b v (.slice wo W.length wcap) len s) (hW : Lin B w wo wcap W len) (hn : s.next ≤ 90000) (hr : RangeV w) (hG : 5 < b) :
    Calls Tryz.prog 86 #[.pointer (some ⟨b, 0, none⟩), .bool eof] w fun x w' => x = .returned (.agg (ocells (offerS W len s eof).1).toArray) ∧ Rdr w' b v (.slice wo W.length wcap) len (offerS W len s eof).2 ∧ w.grownBy w' (some b) := by
  obtain ⟨w0, hw0⟩ : ∃ w0, w.alloc (.cells #[.int .i64 0, .string ⟨#[]⟩, .bool false] 93) = w0 := ⟨_, rfl⟩
  have k0 : Blk w0 w.heap.size 93 #[.int .i64 0, .string ⟨#[]⟩, .bool false] := by rw [← hw0]; exact Blk.new _ _ _
  have b0 : Below w.heap.size w w0 := by rw [← hw0]; exact (Below.refl _ _).alloc (Nat.le_refl _) _
  have h0 := Blk.later h b0
  have W0 := hW.later b0
  have g0 := only_below b0 (some b)
  have hbq : b ≠ w.heap.size := Nat.ne_of_lt h.lt
  have hqs : w.heap.size ≤ w.heap.size := Nat.le_refl _
  have F1 := Lib.hid (rNumber W wo wcap B b len v s 4095 w0 h0 W0 (by omega) (by omega) (range_later hr b0) hG)
  have hnx := numberS_next (W := W) (len := len) (s := s) (most := 4095) hW.at_
  unfold offerS
  generalize numberS W len s 4095 = R1 at *
  obtain ⟨n1, s1⟩ := R1
  simp only at F1 hnx ⊢
  obtain ⟨hp, ht, -⟩ := wordS_facts (W := W) (len := len) (s := s1) (q := true) hW.at_
  have F2 : Hid (∀ w', Rdr w' b v (.slice wo W.length wcap) len s1 → Lin B w' wo wcap W len → Calls Tryz.prog 118 #[.pointer (some ⟨b, 0, none⟩), .bool true] w' fun x w'' => x = .returned (.agg (wcells (wordS W len s1 true).1).toArray) ∧ Rdr w'' b v (.slice wo W.length wcap) len (wordS W len s1 true).2 ∧ w'.grownBy w'' (some b)) :=
    Lib.hid fun w' h' W' => rWord W wo wcap B b len v s1 true w' h' W'.row W'.len W'.cnt (fun x hx => (W'.at_ x hx).1) (by omega)
  generalize wordS W len s1 true = R2 at *
  obtain ⟨⟨tx, qx, px⟩, s2⟩ := R2
  unfold wcells at F2
  simp only at F2 hp ht ⊢
  obtain ⟨s3, hs3⟩ : ∃ s3, (if 256 < tx.length then failS s2 px 4 else s2) = s3 := ⟨_, rfl⟩
  rw [hs3]
  have HS3 := Lib.hid hs3
  clear hs3
  generalize hq : w.heap.size = q at *
  have HW0 := Lib.hid hw0
  have HQ := Lib.hid hq
  clear hw0 hq h hW b0 hr
  go_enter Tryz.func86, Tryz.ntmps86
  go_upto_region 1 with fail
  rw [HW0.out, HQ.out]
  go_wp2_with fail
  refine F1.out.mono ?_; rintro e w1 ⟨rfl, h1, g1⟩
  have W1 := W0.grown h0 g1
  have k1 := k0.grown g1 (fun e => hbq (Option.some.inj e).symm)
  have gg1 := only_trans g0 g1
  go_upto_region 2 with fail
  obtain ⟨w2, hw2⟩ : ∃ w2, w1.alloc (.cells #[.int .i64 n1, .string ⟨#[]⟩, .bool eof] 93) = w2 := ⟨_, rfl⟩
  have b2 : Below w1.heap.size w1 w2 := by rw [← hw2]; exact (Below.refl _ _).alloc (Nat.le_refl _) _
  have k5 : Blk w2 w1.heap.size 93 #[.int .i64 n1, .string ⟨#[]⟩, .bool eof] := by rw [← hw2]; exact Blk.new _ _ _
  have h2 := Blk.later h1 b2
  have W2 := W1.later b2
  have k2 := k1.later b2
  have gg2 := only_trans gg1 (only_below b2 (some b))
  have ne1 : w1.heap.size ≠ b := by have := h1.lt; omega
  have ne2 : w1.heap.size ≠ q := by have := k1.lt; omega
  have hs1 : w.heap.size ≤ w1.heap.size := gg1.size
  rw [hw2]
  clear hw2 W0 h0 k0 g0 g1 h1 W1 k1 gg1 b2
  generalize w1.heap.size = q5 at *
  go_wp2_with fail
  refine (F2.out w2 h2 W2).mono ?_; rintro e w3 ⟨rfl, h3, g3⟩
  have k3 := k2.grown g3 (fun e => hbq (Option.some.inj e).symm)
  have k53 := k5.grown g3 (fun e => ne1 (Option.some.inj e))
  have gg3 := only_trans gg2 g3
  go_upto_region 3 with fail
  obtain ⟨w4, hw4⟩ : ∃ w4, w3.alloc (.cells #[.string (bt tx), .bool qx, .int .i64 (px : Nat)] 110) = w4 := ⟨_, rfl⟩
  have b4 : Below w3.heap.size w3 w4 := by rw [← hw4]; exact (Below.refl _ _).alloc (Nat.le_refl _) _
  have k6 : Blk w4 w3.heap.size 110 #[.string (bt tx), .bool qx, .int .i64 (px : Nat)] := by rw [← hw4]; exact Blk.new _ _ _
  have h4 := Blk.later h3 b4
  have k4 := k3.later b4
  have k54 := k53.later b4
  have gg4 := only_trans gg3 (only_below b4 (some b))
  have ne3 : w3.heap.size ≠ b := by have := h3.lt; omega
  have ne4 : w3.heap.size ≠ q5 := by have := k53.lt; omega
  rw [hw4]
  clear hw4 h2 W2 k2 k5 gg2 h3 g3 k3 k53 gg3 b4
  generalize w3.heap.size = q6 at *
  have hqw : w.heap.size ≤ q := Nat.le_of_eq HQ.out
  have d0 := k4.at3
  have d5 := k54.at3
  have d6 := k6.at3
  have hr := Below.refl w4.heap.size w4
  have et : (bt tx).size = tx.length := rfl
  by_cases c : 256 < tx.length
  · have es : failS s2 px 4 = s3 := by rw [← HS3.out, if_pos c]
    have c1 : (256 : Int) < ((bt tx).size : Int) := by rw [et]; omega
    go_wp2_with fail
    refine (rFail b len px v _ s2 4 w4 h4 (by omega)).mono ?_; rintro e w5 ⟨rfl, h5, g5⟩
    rw [es] at h5
    have k45 := k4.grown g5 (fun e => hbq (Option.some.inj e).symm)
    have k55 := k54.grown g5 (fun e => ne1 (Option.some.inj e))
    have k65 := k6.grown g5 (fun e => ne3 (Option.some.inj e))
    have gg5 := only_trans gg4 g5
    clear d0 d5 d6 hr k4 k54 k6 h4
    have d0 := k45.at3
    have d5 := k55.at3
    have d6 := k65.at3
    have hr := Below.refl w5.heap.size w5
    go_upto_region 6 with fail
    obtain ⟨w6, hw6⟩ : ∃ w6, w5.setCell ⟨q5, 1, none⟩ (.string (bt tx)) = w6 := ⟨_, rfl⟩
    have k46 : Blk w6 q 93 #[.int .i64 0, .string ⟨#[]⟩, .bool false] := by rw [← hw6]; exact k45.far (p := ⟨q5, 1, none⟩) ne2.symm _
    have k56 : Blk w6 q5 93 #[.int .i64 n1, .string (bt tx), .bool eof] := by rw [← hw6]; simpa using k55.set_ 1 (.string (bt tx))
    have h6 : Rdr w6 b v (.slice wo W.length wcap) len s3 := by rw [← hw6]; exact Blk.far h5 (p := ⟨q5, 1, none⟩) ne1.symm _
    have gg6 : w.grownBy w6 (some b) := by rw [← hw6]; exact only_setCell (p := ⟨q5, 1, none⟩) gg5 (.inr hs1) _
    rw [hw6]
    clear hw6 d0 d5 d6 hr k45 k55 k65 h5
    have d0 := k46.at3
    have d5 := k56.at3
    have hr := Below.refl w6.heap.size w6
    go_wp2_with fail
    have kk := k46.set3 (.int .i64 n1) (.string (bt tx)) (.bool eof)
    exact bodyPost_ret (v := .agg #[.int .i64 n1, .string (bt tx), .bool eof]) (by simp [results, Tryz.results86, go_sem, kk.cell]) rfl ⟨rfl, Blk.far3 h6 hbq _ _ _, only_set3 gg6 hqw _ _ _⟩
  · have es : s2 = s3 := by rw [← HS3.out, if_neg c]
    subst es
    have c1 : ¬ (256 : Int) < ((bt tx).size : Int) := by rw [et]; omega
    go_upto_region 6 with fail
    obtain ⟨w6, hw6⟩ : ∃ w6, w4.setCell ⟨q5, 1, none⟩ (.string (bt tx)) = w6 := ⟨_, rfl⟩
    have k46 : Blk w6 q 93 #[.int .i64 0, .string ⟨#[]⟩, .bool false] := by rw [← hw6]; exact k4.far (p := ⟨q5, 1, none⟩) ne2.symm _
    have k56 : Blk w6 q5 93 #[.int .i64 n1, .string (bt tx), .bool eof] := by rw [← hw6]; simpa using k54.set_ 1 (.string (bt tx))
    have h6 : Rdr w6 b v (.slice wo W.length wcap) len s2 := by rw [← hw6]; exact Blk.far h4 (p := ⟨q5, 1, none⟩) ne1.symm _
    have gg6 : w.grownBy w6 (some b) := by rw [← hw6]; exact only_setCell (p := ⟨q5, 1, none⟩) gg4 (.inr hs1) _
    rw [hw6]
    clear hw6 d0 d5 d6 hr k4 k54 k6 h4
    have d0 := k46.at3
    have d5 := k56.at3
    have hr := Below.refl w6.heap.size w6
    go_wp2_with fail
    have kk := k46.set3 (.int .i64 n1) (.string (bt tx)) (.bool eof)
    exact bodyPost_ret (v := .agg #[.int .i64 n1, .string (bt tx), .bool eof]) (by simp [results, Tryz.results86, go_sem, kk.cell]) rfl ⟨rfl, Blk.far3 h6 hbq _ _ _, only_set3 gg6 hqw _ _ _⟩

set_option maxHeartbeats 4000000 in
theorem rReport (W : List Wd) (wo : Option Addr) (wcap B b len : Nat) (v : Value) (s : Rs) (x : List UInt8) (w : World) (hx : x = kRead ∨ x = kWrite ∨ x = kBoth) (h : Rdr w b v (.slice wo W.length wcap) len s) (hW : Lin B w wo wcap W len) (hn : s.next ≤ 90000) (hr : RangeV w) (hG : 5 < b) :
    Calls Tryz.prog 87 #[.pointer (some ⟨b, 0, none⟩), .string (bt x)] w fun e w' => e = .returned (.agg (pcells (reportS W len s x).1).toArray) ∧ Rdr w' b v (.slice wo W.length wcap) len (reportS W len s x).2 ∧ w.grownBy w' (some b) := by
  obtain ⟨w0, hw0⟩ : ∃ w0, w.alloc (.cells #[.int .i64 0, .bool false, .bool false, .int .i64 0] 95) = w0 := ⟨_, rfl⟩
  have k0 : Blk w0 w.heap.size 95 #[.int .i64 0, .bool false, .bool false, .int .i64 0] := by rw [← hw0]; exact Blk.new _ _ _
  have b0 : Below w.heap.size w w0 := by rw [← hw0]; exact (Below.refl _ _).alloc (Nat.le_refl _) _
  have h0 := Blk.later h b0
  have W0 := hW.later b0
  have g0 := only_below b0 (some b)
  have hbq : b ≠ w.heap.size := Nat.ne_of_lt h.lt
  have R0 := range_later hr b0
  have F1 := Lib.hid (rNumber W wo wcap B b len v s 4095 w0 h0 W0 (by omega) (by omega) R0 hG)
  have hnx := numberS_next (W := W) (len := len) (s := s) (most := 4095) hW.at_
  unfold reportS
  generalize numberS W len s 4095 = R1 at *
  obtain ⟨n1, s1⟩ := R1
  simp only at F1 hnx ⊢
  have F2 : Hid (∀ w', Rdr w' b v (.slice wo W.length wcap) len s1 → Lin B w' wo wcap W len → RangeV w' → Calls Tryz.prog 85 #[.pointer (some ⟨b, 0, none⟩), .int .i64 4096] w' fun x w'' => x = .returned (.int .i64 (numberS W len s1 4096).1) ∧ Rdr w'' b v (.slice wo W.length wcap) len (numberS W len s1 4096).2 ∧ w'.grownBy w'' (some b)) :=
    Lib.hid fun w' h' W' r' => rNumber W wo wcap B b len v s1 4096 w' h' W' (by omega) (by omega) r' hG
  generalize numberS W len s1 4096 = R2 at *
  obtain ⟨n2, s2⟩ := R2
  simp only at F2 ⊢
  generalize hq : w.heap.size = q at *
  have HW0 := Lib.hid hw0
  have HQ := Lib.hid hq
  have hqw : w.heap.size ≤ q := Nat.le_of_eq hq
  clear hw0 hq h hW b0 hr
  rcases hx with rfl | rfl | rfl
  · rw [if_pos rfl]
    have f1 : (kRead == [119, 114, 105, 116, 101]) = false := by decide
    have f2 : (kRead == [114, 101, 97, 100]) = true := by decide
    go_enter Tryz.func87, Tryz.ntmps87
    go_upto_region 1 with fail
    rw [HW0.out, HQ.out]
    go_wp2_with fail
    refine F1.out.mono ?_; rintro e w1 ⟨rfl, h1, g1⟩
    have W1 := W0.grown h0 g1
    have R1 := range_grown R0 g1 hG
    have k1 := k0.grown g1 (fun e => hbq (Option.some.inj e).symm)
    have gg1 := only_trans g0 g1
    go_upto_region 2 with fail
    obtain ⟨w2, hw2⟩ : ∃ w2, w1.alloc (.cells #[.int .i64 n1, .bool true, .bool false, .int .i64 0] 95) = w2 := ⟨_, rfl⟩
    have b2 : Below w1.heap.size w1 w2 := by rw [← hw2]; exact (Below.refl _ _).alloc (Nat.le_refl _) _
    have k5 : Blk w2 w1.heap.size 95 #[.int .i64 n1, .bool true, .bool false, .int .i64 0] := by rw [← hw2]; exact Blk.new _ _ _
    have h2 := Blk.later h1 b2
    have W2 := W1.later b2
    have R2 := range_later R1 b2
    have k2 := k1.later b2
    have gg2 := only_trans gg1 (only_below b2 (some b))
    have ne1 : w1.heap.size ≠ b := by have := h1.lt; omega
    have ne2 : w1.heap.size ≠ q := by have := k1.lt; omega
    have hs1 : w.heap.size ≤ w1.heap.size := gg1.size
    rw [hw2]
    clear hw2 W0 h0 k0 g0 g1 h1 W1 k1 gg1 b2 R1 R0
    generalize w1.heap.size = q5 at *
    have d0 := k2.at4
    have d5 := k5.at4
    have hr := Below.refl w2.heap.size w2
    go_wp2_with fail
    have kk := k2.set4 (.int .i64 n1) (.bool true) (.bool false) (.int .i64 0)
    exact bodyPost_ret (v := .agg #[.int .i64 n1, .bool true, .bool false, .int .i64 0]) (by simp [results, Tryz.results87, go_sem, kk.cell]) rfl ⟨rfl, Blk.far4 h2 hbq _ _ _ _, only_set4 gg2 hqw _ _ _ _⟩
  · rw [if_neg (by decide)]
    have f1 : (kWrite == [119, 114, 105, 116, 101]) = true := by decide
    have f2 : (kWrite == [114, 101, 97, 100]) = false := by decide
    go_enter Tryz.func87, Tryz.ntmps87
    go_upto_region 1 with fail
    rw [HW0.out, HQ.out]
    go_wp2_with fail
    refine F1.out.mono ?_; rintro e w1 ⟨rfl, h1, g1⟩
    have W1 := W0.grown h0 g1
    have R1 := range_grown R0 g1 hG
    have k1 := k0.grown g1 (fun e => hbq (Option.some.inj e).symm)
    have gg1 := only_trans g0 g1
    go_upto_region 2 with fail
    obtain ⟨w2, hw2⟩ : ∃ w2, w1.alloc (.cells #[.int .i64 n1, .bool false, .bool true, .int .i64 0] 95) = w2 := ⟨_, rfl⟩
    have b2 : Below w1.heap.size w1 w2 := by rw [← hw2]; exact (Below.refl _ _).alloc (Nat.le_refl _) _
    have k5 : Blk w2 w1.heap.size 95 #[.int .i64 n1, .bool false, .bool true, .int .i64 0] := by rw [← hw2]; exact Blk.new _ _ _
    have h2 := Blk.later h1 b2
    have W2 := W1.later b2
    have R2 := range_later R1 b2
    have k2 := k1.later b2
    have gg2 := only_trans gg1 (only_below b2 (some b))
    have ne1 : w1.heap.size ≠ b := by have := h1.lt; omega
    have ne2 : w1.heap.size ≠ q := by have := k1.lt; omega
    have hs1 : w.heap.size ≤ w1.heap.size := gg1.size
    rw [hw2]
    clear hw2 W0 h0 k0 g0 g1 h1 W1 k1 gg1 b2 R1 R0
    generalize w1.heap.size = q5 at *
    have d0 := k2.at4
    have d5 := k5.at4
    have hr := Below.refl w2.heap.size w2
    go_wp2_with fail
    refine (F2.out w2 h2 W2 R2).mono ?_; rintro e w3 ⟨rfl, h3, g3⟩
    have k3 := k2.grown g3 (fun e => hbq (Option.some.inj e).symm)
    have k53 := k5.grown g3 (fun e => ne1 (Option.some.inj e))
    have gg3 := only_trans gg2 g3
    clear d0 d5 hr h2 W2 k2 k5
    have d0 := k3.at4
    have d5 := k53.at4
    have hr := Below.refl w3.heap.size w3
    go_upto_region 4 with fail
    obtain ⟨w6, hw6⟩ : ∃ w6, w3.setCell ⟨q5, 3, none⟩ (.int .i64 n2) = w6 := ⟨_, rfl⟩
    have k46 : Blk w6 q 95 #[.int .i64 0, .bool false, .bool false, .int .i64 0] := by rw [← hw6]; exact k3.far (p := ⟨q5, 3, none⟩) ne2.symm _
    have k56 : Blk w6 q5 95 #[.int .i64 n1, .bool false, .bool true, .int .i64 n2] := by rw [← hw6]; simpa using k53.set_ 3 (.int .i64 n2)
    have h6 : Rdr w6 b v (.slice wo W.length wcap) len s2 := by rw [← hw6]; exact Blk.far h3 (p := ⟨q5, 3, none⟩) ne1.symm _
    have gg6 : w.grownBy w6 (some b) := by rw [← hw6]; exact only_setCell (p := ⟨q5, 3, none⟩) gg3 (.inr hs1) _
    rw [hw6]
    clear hw6 d0 d5 hr k3 k53 h3
    have d0 := k46.at4
    have d5 := k56.at4
    have hr := Below.refl w6.heap.size w6
    go_wp2_with fail
    have kk := k46.set4 (.int .i64 n1) (.bool false) (.bool true) (.int .i64 n2)
    exact bodyPost_ret (v := .agg #[.int .i64 n1, .bool false, .bool true, .int .i64 n2]) (by simp [results, Tryz.results87, go_sem, kk.cell]) rfl ⟨rfl, Blk.far4 h6 hbq _ _ _ _, only_set4 gg6 hqw _ _ _ _⟩
  · rw [if_neg (by decide)]
    have f1 : (kBoth == [119, 114, 105, 116, 101]) = false := by decide
    have f2 : (kBoth == [114, 101, 97, 100]) = false := by decide
    go_enter Tryz.func87, Tryz.ntmps87
    go_upto_region 1 with fail
    rw [HW0.out, HQ.out]
    go_wp2_with fail
    refine F1.out.mono ?_; rintro e w1 ⟨rfl, h1, g1⟩
    have W1 := W0.grown h0 g1
    have R1 := range_grown R0 g1 hG
    have k1 := k0.grown g1 (fun e => hbq (Option.some.inj e).symm)
    have gg1 := only_trans g0 g1
    go_upto_region 2 with fail
    obtain ⟨w2, hw2⟩ : ∃ w2, w1.alloc (.cells #[.int .i64 n1, .bool true, .bool true, .int .i64 0] 95) = w2 := ⟨_, rfl⟩
    have b2 : Below w1.heap.size w1 w2 := by rw [← hw2]; exact (Below.refl _ _).alloc (Nat.le_refl _) _
    have k5 : Blk w2 w1.heap.size 95 #[.int .i64 n1, .bool true, .bool true, .int .i64 0] := by rw [← hw2]; exact Blk.new _ _ _
    have h2 := Blk.later h1 b2
    have W2 := W1.later b2
    have R2 := range_later R1 b2
    have k2 := k1.later b2
    have gg2 := only_trans gg1 (only_below b2 (some b))
    have ne1 : w1.heap.size ≠ b := by have := h1.lt; omega
    have ne2 : w1.heap.size ≠ q := by have := k1.lt; omega
    have hs1 : w.heap.size ≤ w1.heap.size := gg1.size
    rw [hw2]
    clear hw2 W0 h0 k0 g0 g1 h1 W1 k1 gg1 b2 R1 R0
    generalize w1.heap.size = q5 at *
    have d0 := k2.at4
    have d5 := k5.at4
    have hr := Below.refl w2.heap.size w2
    go_wp2_with fail
    refine (F2.out w2 h2 W2 R2).mono ?_; rintro e w3 ⟨rfl, h3, g3⟩
    have k3 := k2.grown g3 (fun e => hbq (Option.some.inj e).symm)
    have k53 := k5.grown g3 (fun e => ne1 (Option.some.inj e))
    have gg3 := only_trans gg2 g3
    clear d0 d5 hr h2 W2 k2 k5
    have d0 := k3.at4
    have d5 := k53.at4
    have hr := Below.refl w3.heap.size w3
    go_upto_region 4 with fail
    obtain ⟨w6, hw6⟩ : ∃ w6, w3.setCell ⟨q5, 3, none⟩ (.int .i64 n2) = w6 := ⟨_, rfl⟩
    have k46 : Blk w6 q 95 #[.int .i64 0, .bool false, .bool false, .int .i64 0] := by rw [← hw6]; exact k3.far (p := ⟨q5, 3, none⟩) ne2.symm _
    have k56 : Blk w6 q5 95 #[.int .i64 n1, .bool true, .bool true, .int .i64 n2] := by rw [← hw6]; simpa using k53.set_ 3 (.int .i64 n2)
    have h6 : Rdr w6 b v (.slice wo W.length wcap) len s2 := by rw [← hw6]; exact Blk.far h3 (p := ⟨q5, 3, none⟩) ne1.symm _
    have gg6 : w.grownBy w6 (some b) := by rw [← hw6]; exact only_setCell (p := ⟨q5, 3, none⟩) gg3 (.inr hs1) _
    rw [hw6]
    clear hw6 d0 d5 hr k3 k53 h3
    have d0 := k46.at4
    have d5 := k56.at4
    have hr := Below.refl w6.heap.size w6
    go_wp2_with fail
    have kk := k46.set4 (.int .i64 n1) (.bool true) (.bool true) (.int .i64 n2)
    exact bodyPost_ret (v := .agg #[.int .i64 n1, .bool true, .bool true, .int .i64 n2]) (by simp [results, Tryz.results87, go_sem, kk.cell]) rfl ⟨rfl, Blk.far4 h6 hbq _ _ _ _, only_set4 gg6 hqw _ _ _ _⟩
end Go.Proofs.YtmnkekepccdlcaaGreatDoor
