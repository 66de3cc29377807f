/-
  What the statements WireNil and WireLong compute, and that what came is read piece by piece.
  Conditions: none.
-/
import Derived.Test.YtpnbcepljehogaaWireRef
namespace Go.Proofs.Ytpnbcepljehogaa
open Go.RowKit

/-- A wire in block b, all of which lies from block B on, in a world that is as w0 below B. -/
structure WA (B : Nat) (w0 w : World) (b : Nat) (S : List UInt8) (sent rd : Int) (eof : Bool) : Prop where
  ex : ∃ lv a ps, Wir w b lv S sent rd eof a ps ∧ ∀ g, lv.ownBlock = some g → B ≤ g
  below : Below B w0 w
  lo : B ≤ b
  le : B ≤ w0.heap.size

theorem WA.later {B : Nat} {w0 w w' : World} {b : Nat} {S : List UInt8} {sent rd : Int} {eof : Bool} (h : WA B w0 w b S sent rd eof) (hb : Below w.heap.size w w') : WA B w0 w' b S sent rd eof := by
  obtain ⟨⟨lv, a, ps, hw, hl⟩, h1, h2, h3⟩ := h
  exact ⟨⟨lv, a, ps, hw.later hb, hl⟩, h1.up hb h3, h2, h3⟩
theorem WA.cast {B : Nat} {w0 w : World} {b : Nat} {S S' : List UInt8} {sent rd sent' rd' : Int} {eof : Bool} (h : WA B w0 w b S sent rd eof) (e1 : S = S') (e2 : sent = sent') (e3 : rd = rd') : WA B w0 w b S' sent' rd' eof := by
  subst e1 e2 e3; exact h

theorem turned_below {B b : Nat} {w0 w w' : World} {lv : Value} (h : Below B w0 w) (k : Turned w w' b lv) (hle : B ≤ w0.heap.size) (hb : B ≤ b) (hl : ∀ g, lv.ownBlock = some g → B ≤ g) : Below B w0 w' :=
  ⟨k.os.trans h.os, k.tape.trans h.tape, k.output.trans h.output, Nat.le_trans h.size k.size, fun i hi => (k.block i (by have := h.size; omega) (by omega) (fun e => by have := hl i e; omega)).trans (h.block i hi)⟩

theorem aNew (w : World) : Calls Try.prog 50 #[] w fun e w' => e = .returned (.pointer (some ⟨w.heap.size, 0, none⟩)) ∧ WA w.heap.size w w' w.heap.size [] 0 0 false :=
  (wNew w).mono fun e w' ⟨h1, h2, h3⟩ => ⟨h1, ⟨⟨_, _, _, h2, by simp [Value.ownBlock]⟩, h3, Nat.le_refl _, Nat.le_refl _⟩⟩
theorem aNewB (B : Nat) (w0 w : World) (h : Below B w0 w) (hle : B ≤ w0.heap.size) : Calls Try.prog 50 #[] w fun e w' => e = .returned (.pointer (some ⟨w.heap.size, 0, none⟩)) ∧ WA B w0 w' w.heap.size [] 0 0 false ∧ Below w.heap.size w w' :=
  (wNew w).mono fun e w' ⟨h1, h2, h3⟩ => ⟨h1, ⟨⟨_, _, _, h2, by simp [Value.ownBlock]⟩, h.up h3 hle, Nat.le_trans hle h.size, hle⟩, h3⟩
theorem aOffer0 (B b : Nat) (w0 w : World) (S : List UInt8) (sent rd : Int) (eof ef : Bool) (u : ByteArray) (h : WA B w0 w b S sent rd eof) (hno : eof = true ∨ 4096 < u.size) :
    Calls Try.prog 51 #[.pointer (some ⟨b, 0, none⟩), .string u, .bool ef] w fun e w' => e = .returned (.bool false) ∧ w = w' := by
  obtain ⟨⟨lv, a, ps, hw, hl⟩, h1, h2, h3⟩ := h
  exact wOffer0 b a lv S sent rd eof ef ps u w hw hno
theorem aOffer1 (B b : Nat) (w0 w : World) (S : List UInt8) (sent rd : Int) (ef : Bool) (u : ByteArray) (h : WA B w0 w b S sent rd false) (hu : u.size ≤ 4096) (hS : S.length ≤ 500000) (hse : 0 ≤ sent ∧ sent ≤ 500000) :
    Calls Try.prog 51 #[.pointer (some ⟨b, 0, none⟩), .string u, .bool ef] w fun e w' => e = .returned (.bool true) ∧ WA B w0 w' b (S ++ u.data.toList) (sent + u.size) rd ef := by
  obtain ⟨⟨lv, a, ps, hw, hl⟩, h1, h2, h3⟩ := h
  refine (wOffer1 b a lv S sent rd ef ps u w hw hu hS hse).mono ?_
  rintro e w' ⟨rfl, lv', ps', hw', ho, ht⟩
  refine ⟨rfl, ⟨lv', a, ps', hw', fun g hg => ?_⟩, turned_below h1 ht h3 h2 hl, h2, h3⟩
  rcases ho with ho | ho
  · exact hl g (ho ▸ hg)
  · have := ho g hg
    have := h1.size
    omega
theorem aTake (B b : Nat) (w0 w : World) (S : List UInt8) (sent rd : Int) (eof : Bool) (n : Int) (h : WA B w0 w b S sent rd eof) (hS : S.length ≤ 500000) (hrd : 0 ≤ rd ∧ rd ≤ 500000) :
    Calls Try.prog 68 #[.pointer (some ⟨b, 0, none⟩), .int .i64 n] w fun e w' => e = .returned (.string (bs (S.take (wK n S)))) ∧ WA B w0 w' b (S.drop (wK n S)) sent (rd + wK n S) eof := by
  obtain ⟨⟨lv, a, ps, hw, hl⟩, h1, h2, h3⟩ := h
  refine (wTake b a lv S sent rd eof ps n w hw hS hrd).mono ?_
  rintro e w' ⟨rfl, lv', a', ps', hw', ho, hg⟩
  exact ⟨rfl, ⟨lv', a', ps', hw', fun g hg => hl g (ho ▸ hg)⟩, turned_below h1 (Turned.of (lv := lv) hg) h3 h2 hl, h2, h3⟩
theorem aLen (B b : Nat) (w0 w : World) (S : List UInt8) (sent rd : Int) (eof : Bool) (h : WA B w0 w b S sent rd eof) :
    Calls Try.prog 52 #[.pointer (some ⟨b, 0, none⟩)] w fun e w' => e = .returned (.int .i64 (S.length : Nat)) ∧ w = w' := by
  obtain ⟨⟨lv, a, ps, hw, hl⟩, h1, h2, h3⟩ := h
  exact wLen b a lv S sent rd eof ps w hw
theorem aSent (B b : Nat) (w0 w : World) (S : List UInt8) (sent rd : Int) (eof : Bool) (h : WA B w0 w b S sent rd eof) :
    Calls Try.prog 70 #[.pointer (some ⟨b, 0, none⟩)] w fun e w' => e = .returned (.int .i64 sent) ∧ w = w' := by
  obtain ⟨⟨lv, a, ps, hw, hl⟩, h1, h2, h3⟩ := h
  exact wSent b a lv S sent rd eof ps w hw
theorem aRead (B b : Nat) (w0 w : World) (S : List UInt8) (sent rd : Int) (eof : Bool) (h : WA B w0 w b S sent rd eof) :
    Calls Try.prog 71 #[.pointer (some ⟨b, 0, none⟩)] w fun e w' => e = .returned (.int .i64 rd) ∧ w = w' := by
  obtain ⟨⟨lv, a, ps, hw, hl⟩, h1, h2, h3⟩ := h
  exact wRead b a lv S sent rd eof ps w hw
theorem aEof (B b : Nat) (w0 w : World) (S : List UInt8) (sent rd : Int) (eof : Bool) (h : WA B w0 w b S sent rd eof) :
    Calls Try.prog 53 #[.pointer (some ⟨b, 0, none⟩)] w fun e w' => e = .returned (.bool eof) ∧ WA B w0 w' b S sent rd eof := by
  have hh := h
  obtain ⟨⟨lv, a, ps, hw, hl⟩, h1, h2, h3⟩ := h
  exact (wEof b a lv S sent rd eof ps w hw).mono fun e w' ⟨h1, h2⟩ => ⟨h1, hh.later h2⟩
theorem aOver (B b : Nat) (w0 w : World) (S : List UInt8) (sent rd : Int) (eof : Bool) (h : WA B w0 w b S sent rd eof) :
    Calls Try.prog 77 #[.pointer (some ⟨b, 0, none⟩)] w fun e w' => e = .returned (.bool (eof && ((S.length : Int) == 0))) ∧ WA B w0 w' b S sent rd eof := by
  have hh := h
  obtain ⟨⟨lv, a, ps, hw, hl⟩, h1, h2, h3⟩ := h
  exact (wOver b a lv S sent rd eof ps w hw).mono fun e w' ⟨h1, h2⟩ => ⟨h1, hh.later h2⟩
theorem aPeek (B b : Nat) (w0 w : World) (S : List UInt8) (sent rd : Int) (eof : Bool) (n : Int) (h : WA B w0 w b S sent rd eof) (hS : S.length ≤ 500000) :
    Calls Try.prog 69 #[.pointer (some ⟨b, 0, none⟩), .int .i64 n] w fun e w' => e = .returned (.string (bs (S.take (wK n S)))) ∧ WA B w0 w' b S sent rd eof := by
  have hh := h
  obtain ⟨⟨lv, a, ps, hw, hl⟩, h1, h2, h3⟩ := h
  exact (wPeek b a lv S sent rd eof ps n w hw hS).mono fun e w' ⟨h1, h2⟩ => ⟨h1, hh.later h2⟩

set_option maxHeartbeats 2000000 in
theorem wLives (w : World) : Calls Try.prog 54 #[] w fun e w' => e = .returned (.bool true) ∧ Below w.heap.size w w' := by
  go_enter Try.func54, Try.ntmps54
  go_wp2_with fail
  refine (aNew _).mono ?_; rintro e w1 ⟨rfl, k1⟩
  go_wp2_with fail
  refine (aOffer1 _ _ _ _ _ _ _ _ _ k1 (by decide) (by decide) (by decide)).mono ?_; rintro e w2 ⟨rfl, k2⟩
  have k2 : WA w.heap.size w w2 w.heap.size [97, 98] 2 0 false := k2
  clear k1
  go_wp2_with fail
  refine (aOffer1 _ _ _ _ _ _ _ _ _ k2 (by decide) (by decide) (by decide)).mono ?_; rintro e w3 ⟨rfl, k3⟩
  have k3 : WA w.heap.size w w3 w.heap.size [97, 98, 99] 3 0 true := k3
  clear k2
  go_wp2_with fail
  refine (aTake _ _ _ _ _ _ _ _ _ k3 (by decide) (by decide)).mono ?_; rintro e w4 ⟨he, k4⟩
  have he : e = .returned (.string ⟨#[97, 98]⟩) := he
  subst he
  have k4 : WA w.heap.size w w4 w.heap.size [99] 3 2 true := k4
  clear k3
  go_wp2_with fail
  refine (aOver _ _ _ _ _ _ _ _ k4).mono ?_; rintro e w5 ⟨he, k5⟩
  have he : e = .returned (.bool false) := he
  subst he
  clear k4
  go_wp2_with fail
  refine (aTake _ _ _ _ _ _ _ _ _ k5 (by decide) (by decide)).mono ?_; rintro e w6 ⟨he, k6⟩
  have he : e = .returned (.string ⟨#[99]⟩) := he
  subst he
  have k6 : WA w.heap.size w w6 w.heap.size [] 3 3 true := k6
  clear k5
  go_wp2_with fail
  refine (aOver _ _ _ _ _ _ _ _ k6).mono ?_; rintro e w7 ⟨he, k7⟩
  have he : e = .returned (.bool true) := he
  subst he
  clear k6
  go_wp2_with fail
  refine (aOffer0 _ _ _ _ _ _ _ _ _ _ k7 (.inl rfl)).mono ?_; rintro e w8 ⟨rfl, rfl⟩
  go_wp2_with fail
  go_ret
  exact ⟨rfl, k7.below⟩

set_option maxHeartbeats 1000000 in
theorem wireNil (n : Int) (s : ByteArray) (w : World) : Calls Try.prog 14 #[.int .i64 n, .string s] w fun e w' => e = .returned (.bool true) ∧ Below w.heap.size w w' := by
  go_enter Try.func14, Try.ntmps14
  go_wp2_with fail
  refine (zOffer _ _ _).mono ?_; rintro e w1 ⟨rfl, hb1⟩
  go_wp2_with fail
  refine (zTake _ _).mono ?_; rintro e w2 ⟨rfl, hb2'⟩
  have hb2 := hb1.up hb2'
  clear hb1 hb2'
  go_wp2_with fail
  refine (zPeek _ _).mono ?_; rintro e w3 ⟨rfl, hb3'⟩
  have hb3 := hb2.up hb3'
  clear hb2 hb3'
  go_wp2_with fail
  refine (zLen _).mono ?_; rintro e w4 ⟨rfl, hb4'⟩
  have hb4 := hb3.up hb4'
  clear hb3 hb4'
  go_wp2_with fail
  refine (zEof _).mono ?_; rintro e w5 ⟨rfl, hb5'⟩
  have hb5 := hb4.up hb5'
  clear hb4 hb5'
  go_wp2_with fail
  refine (zOver _).mono ?_; rintro e w6 ⟨rfl, hb6'⟩
  have hb6 := hb5.up hb6'
  clear hb5 hb6'
  go_wp2_with fail
  refine (zSent _).mono ?_; rintro e w7 ⟨rfl, hb7'⟩
  have hb7 := hb6.up hb7'
  clear hb6 hb7'
  go_wp2_with fail
  refine (zRead _).mono ?_; rintro e w8 ⟨rfl, hb8'⟩
  have hb8 := hb7.up hb8'
  clear hb7 hb8'
  go_wp2_with fail
  refine (zDrop _).mono ?_; rintro e w9 ⟨rfl, hb9'⟩
  have hb9 := hb8.up hb9'
  clear hb8 hb9'
  go_wp2_with fail
  refine (wLives _).mono ?_; rintro e w10 ⟨rfl, hb10'⟩
  have hb10 := hb9.up hb10'
  clear hb9 hb10'
  go_wp2_with fail
  go_ret
  exact ⟨rfl, hb10⟩
end Go.Proofs.Ytpnbcepljehogaa
