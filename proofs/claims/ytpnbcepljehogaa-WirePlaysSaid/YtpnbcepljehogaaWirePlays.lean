/-
  What the statement WirePlays computes: a wire and its reference tell the same at each call.
  Conditions: the calls are a list that memory holds.
-/
import Derived.Test.YtpnbcepljehogaaWireLaws
import Derived.Test.YtpnbcepljehogaaCut
import Derived.Deep.CutBlock
import Derived.Deep.RegionHeld3
namespace Go.Proofs.Ytpnbcepljehogaa
open Go.RowKit

/-- A wire in block B and its reference in block x. -/
structure WX (B x : Nat) (w0 w : World) (S : List UInt8) (sent rd : Int) (eof : Bool) (cs : Array Value) : Prop where
  ex : ∃ lv a ps, Wir w B lv S sent rd eof a ps ∧ ∀ g, lv.ownBlock = some g → B ≤ g ∧ g ≠ x
  xb : Blk w x 87 cs
  below : Below B w0 w
  le : B ≤ w0.heap.size
  ne : x ≠ B
  lx : B ≤ x

section
variable {B x : Nat} {w0 w w' : World} {S : List UInt8} {sent rd : Int} {eof : Bool} {cs : Array Value}
theorem WX.later (h : WX B x w0 w S sent rd eof cs) (hb : Below w.heap.size w w') : WX B x w0 w' S sent rd eof cs := by
  obtain ⟨⟨lv, a, ps, hw, hl⟩, h1, h2, h3, h4, h5⟩ := h
  exact ⟨⟨lv, a, ps, hw.later hb, hl⟩, h1.later hb, h2.up hb h3, h3, h4, h5⟩
theorem WX.set4 {p0 p1 p2 p3 : Value} (h : WX B x w0 w S sent rd eof #[p0, p1, p2, p3]) (q0 q1 q2 q3 : Value) :
    WX B x w0 ((((w.setCell ⟨x, 0, none⟩ q0).setCell ⟨x, 1, none⟩ q1).setCell ⟨x, 2, none⟩ q2).setCell ⟨x, 3, none⟩ q3) S sent rd eof #[q0, q1, q2, q3] := by
  obtain ⟨⟨lv, a, ps, hw, hl⟩, h1, h2, h3, h4, h5⟩ := h
  have hn : lv.ownBlock ≠ some x := fun e => (hl x e).2 rfl
  have hne : B ≠ x := fun e => h4 e.symm
  refine ⟨⟨lv, a, ps, ⟨(((hw.blk.far (p := ⟨x, 0, none⟩) hne q0).far (p := ⟨x, 1, none⟩) hne q1).far (p := ⟨x, 2, none⟩) hne q2).far (p := ⟨x, 3, none⟩) hne q3,
    (((hw.pcs.set_ hn _ _).set_ hn _ _).set_ hn _ _).set_ hn _ _, hw.own, hw.first, hw.none_, hw.bytes, hw.each⟩, hl⟩, ?_,
    (((h2.setCell (p := ⟨x, 0, none⟩) h5 q0).setCell (p := ⟨x, 1, none⟩) h5 q1).setCell (p := ⟨x, 2, none⟩) h5 q2).setCell (p := ⟨x, 3, none⟩) h5 q3, h3, h4, h5⟩
  have := (((h1.set_ 0 q0).set_ 1 q1).set_ 2 q2).set_ 3 q3
  simpa using this
end

theorem xOffer0 (B x : Nat) (w0 w : World) (S : List UInt8) (sent rd : Int) (eof ef : Bool) (u : ByteArray) (cs : Array Value) (h : WX B x w0 w S sent rd eof cs) (hno : eof = true ∨ 4096 < u.size) :
    Calls Try.prog 51 #[.pointer (some ⟨B, 0, none⟩), .string u, .bool ef] w fun e w' => e = .returned (.bool false) ∧ w = w' := by
  obtain ⟨⟨lv, a, ps, hw, hl⟩, h1, h2, h3, h4, h5⟩ := h
  exact wOffer0 B a lv S sent rd eof ef ps u w hw hno
theorem xOffer1 (B x : Nat) (w0 w : World) (S : List UInt8) (sent rd : Int) (ef : Bool) (u : ByteArray) (cs : Array Value) (h : WX B x w0 w S sent rd false cs) (hu : u.size ≤ 4096) (hS : S.length ≤ 500000) (hse : 0 ≤ sent ∧ sent ≤ 500000) :
    Calls Try.prog 51 #[.pointer (some ⟨B, 0, none⟩), .string u, .bool ef] w fun e w' => e = .returned (.bool true) ∧ WX B x w0 w' (S ++ u.data.toList) (sent + u.size) rd ef cs := by
  obtain ⟨⟨lv, a, ps, hw, hl⟩, h1, h2, h3, h4, h5⟩ := h
  refine (wOffer1 B a lv S sent rd ef ps u w hw hu hS hse).mono ?_
  rintro e w' ⟨rfl, lv', ps', hw', ho, ht⟩
  have hx := h1.lt
  refine ⟨rfl, ⟨lv', a, ps', hw', fun g hg => ?_⟩, (ht.block x hx h4 (fun e => (hl x e).2 rfl)).trans h1, turned_below h2 ht h3 (Nat.le_refl _) (fun g hg => (hl g hg).1), h3, h4, h5⟩
  rcases ho with ho | ho
  · exact hl g (ho ▸ hg)
  · have := ho g hg
    have := h2.size
    omega
theorem xTake (B x : Nat) (w0 w : World) (S : List UInt8) (sent rd : Int) (eof : Bool) (n : Int) (cs : Array Value) (h : WX B x w0 w S sent rd eof cs) (hS : S.length ≤ 500000) (hrd : 0 ≤ rd ∧ rd ≤ 500000) :
    Calls Try.prog 68 #[.pointer (some ⟨B, 0, none⟩), .int .i64 n] w fun e w' => e = .returned (.string (bs (S.take (wK n S)))) ∧ WX B x w0 w' (S.drop (wK n S)) sent (rd + wK n S) eof cs := by
  obtain ⟨⟨lv, a, ps, hw, hl⟩, h1, h2, h3, h4, h5⟩ := h
  refine (wTake B a lv S sent rd eof ps n w hw hS hrd).mono ?_
  rintro e w' ⟨rfl, lv', a', ps', hw', ho, hg⟩
  exact ⟨rfl, ⟨lv', a', ps', hw', fun g hg => hl g (ho ▸ hg)⟩, h1.grown hg (fun e => h4 (Option.some.inj e)), turned_below h2 (Turned.of (lv := lv) hg) h3 (Nat.le_refl _) (fun g hg => (hl g hg).1), h3, h4, h5⟩
theorem xDrop (B x : Nat) (w0 w : World) (S : List UInt8) (sent rd : Int) (eof : Bool) (cs : Array Value) (h : WX B x w0 w S sent rd eof cs) :
    Calls Try.prog 74 #[.pointer (some ⟨B, 0, none⟩)] w fun e w' => e = .returned (.int .i64 (S.length : Nat)) ∧ WX B x w0 w' [] sent rd true cs := by
  obtain ⟨⟨lv, a, ps, hw, hl⟩, h1, h2, h3, h4, h5⟩ := h
  refine (wDrop B a lv S sent rd eof ps w hw).mono ?_
  rintro e w' ⟨rfl, hw', hg⟩
  exact ⟨rfl, ⟨_, _, _, hw', by simp [Value.ownBlock]⟩, h1.grown hg (fun e => h4 (Option.some.inj e)), turned_below h2 (Turned.of (lv := lv) hg) h3 (Nat.le_refl _) (fun g hg => (hl g hg).1), h3, h4, h5⟩
theorem xTold (B x : Nat) (w0 w : World) (S : List UInt8) (sent rd n : Int) (eof : Bool) (cs : Array Value) (h : WX B x w0 w S sent rd eof cs) (hS : S.length ≤ 500000) :
    Calls Try.prog 76 #[.pointer (some ⟨B, 0, none⟩), WV S sent rd eof, .int .i64 n] w fun e w' => e = .returned (.bool true) ∧ WX B x w0 w' S sent rd eof cs := by
  have hh := h
  obtain ⟨⟨lv, a, ps, hw, hl⟩, h1, h2, h3, h4, h5⟩ := h
  exact (lwTold B a lv S sent rd n eof ps w hw hS).mono fun e w' ⟨h1, h2⟩ => ⟨h1, hh.later h2⟩

/-- The two side by side, behind so many calls. -/
def Beside (B x : Nat) (w0 w : World) (k : Nat) : Prop :=
  ∃ (S : List UInt8) (sent rd : Int) (eof : Bool), WX B x w0 w S sent rd eof #[.string (bs S), .int .i64 sent, .int .i64 rd, .bool eof] ∧ 0 ≤ rd ∧ rd + S.length ≤ sent ∧ sent ≤ 12 * k

set_option maxHeartbeats 4000000 in
set_option maxRecDepth 100000 in
theorem wirePlays (a2 : Int) (ao : Option Addr) (cap n : Nat) (w : World) (hz : n ≤ maxLen)
    (hcell : ∀ i, i < n → ∃ b off K S N, ao = some ⟨b, off, none⟩ ∧ w.cell? ⟨b, off + i * 3, none⟩ = some (.int .i64 K) ∧ w.cell? ⟨b, off + i * 3 + 1, none⟩ = some (.string S) ∧ w.cell? ⟨b, off + i * 3 + 2, none⟩ = some (.int .i64 N)) :
    Calls Try.prog 13 #[.slice ao n cap, .int .i64 a2] w fun e w' => e = .returned (.bool true) ∧ Below w.heap.size w w' := by
  have HC := Lib.hid hcell
  clear hcell
  have hzl : n ≤ 9223372036854775807 := Nat.le_trans hz (by decide)
  go_enter Try.func13, Try.ntmps13
  go_wp2_with fail
  refine (wNew _).mono ?_; rintro e w1 ⟨rfl, k1, hb1⟩
  generalize hB : w.heap.size = B at *
  have hBs : B ≤ w.heap.size := Nat.le_of_eq hB.symm
  have HB := Lib.hid hB
  clear hB
  have hlt1 : B < w1.heap.size := k1.blk.lt
  obtain ⟨x, hx⟩ : ∃ x, w1.heap.size = x := ⟨_, rfl⟩
  generalize hw2 : w1.alloc (.cells #[.string ⟨#[]⟩, .int .i64 0, .int .i64 0, .bool false] 87) = w2
  have c0 : Beside B x w w2 0 := by
    subst hx hw2
    exact ⟨[], 0, 0, false, ⟨⟨_, _, _, k1.later ((Below.refl _ _).alloc (Nat.le_refl _) _), by simp [Value.ownBlock]⟩, Blk.new _ _ _, hb1.alloc (by omega) _, hBs, by omega, by omega⟩, by decide, by decide, by decide⟩
  have HW2 := Lib.hid hw2
  have HX := Lib.hid hx
  clear hw2 hx k1 hb1 hlt1
  go_upto_region 2 with fail
  rw [HX.out, HW2.out]
  clear HX HW2
  go_wp2_with fail
  go_loopw [7] (fun i wr => ∃ k : Nat, k ≤ n ∧ k ≤ 20 ∧ i = .int .i64 k ∧ Beside B x w wr k) (fun i _ => n - (intOf i).toNat)
  case atStart => exact ⟨0, Nat.zero_le _, Nat.zero_le _, rfl, c0⟩
  case round =>
    obtain ⟨k, hk, hk20, rfl, S, sent, rd, eof, hs, b1, b2, b3⟩ := hrel
    clear c0
    have hSl : S.length ≤ 240 := by omega
    by_cases hlt : k < n ∧ k < 20
    · obtain ⟨b, off, K, Q, N, rfl, hz0, hz1, hz2⟩ := HC.out k hlt.1
      have hw := block_lt hz0
      have hwB : b < B := Nat.lt_of_lt_of_le hw (Nat.le_of_eq HB.out)
      have f0 : ∀ w', Below B w w' → w'.cell? ⟨b, off + k * 3, none⟩ = some (.int .i64 K) ∧ w'.cell? ⟨b, off + k * 3 + 1, none⟩ = some (.string Q) ∧ w'.cell? ⟨b, off + k * 3 + 2, none⟩ = some (.int .i64 N) :=
        fun w' h => ⟨(h.cell (p := ⟨b, off + k * 3, none⟩) hwB).trans hz0, (h.cell (p := ⟨b, off + k * 3 + 1, none⟩) hwB).trans hz1, (h.cell (p := ⟨b, off + k * 3 + 2, none⟩) hwB).trans hz2⟩
      have e0 : (0 : Int) ≤ (k : Int) := by omega
      have e1 : (k : Int) < (n : Int) := by omega
      have e2 : (k : Int) < 20 := by omega
      have hb := hs.below
      clear hz0 hz1 hz2
      go_wp2_with fail
      refine (xCut Q 12 _).mono ?_; rintro e w4 ⟨rfl, rfl⟩
      go_upto_region 7 with fail
      have hU := cutT_size Q 12
      generalize cutT Q 12 = U at *
      generalize hwa : wr.alloc (.cells #[.int .i64 K, .string U, .int .i64 N] 88) = wa
      have ka : Blk wa wr.heap.size 88 #[.int .i64 K, .string U, .int .i64 N] := hwa ▸ Blk.new _ _ _
      have nq : wr.heap.size ≠ x := by have := hs.xb.lt; omega
      have sy : WX B x w wa S sent rd eof #[.string (bs S), .int .i64 sent, .int .i64 rd, .bool eof] := hwa ▸ hs.later ((Below.refl _ _).alloc (Nat.le_refl _) _)
      clear hwa hs hb f0
      generalize wr.heap.size = q at *
      have dq := ka.at3
      have dx := sy.xb.at4
      have hr := Below.refl wa.heap.size wa
      go_upto_block 2 with fail
      go_cut [] (fun wx => Beside B x w wx (k + 1))
      case first =>
        have hK : (K = 0 ∨ K = 1) ∨ K = 2 ∨ K = 3 ∨ (¬ K = 0 ∧ ¬ K = 1 ∧ ¬ K = 2 ∧ ¬ K = 3) := by omega
        rcases hK with hK | rfl | rfl | ⟨hK0, hK1, hK2, hK3⟩
        · cases eof with
          | true =>
            rcases hK with rfl | rfl
            all_goals (
              go_wp2_with fail
              refine (rwOffer0 _ _ _ _ _ _ _ (.inl rfl)).mono ?_; rintro e w4 ⟨rfl, hb4⟩
              have s4 := sy.later hb4
              have q4 := ka.later hb4
              clear dq dx hr sy ka hb4
              have dq := q4.at3
              have dx := s4.xb.at4
              have hr := Below.refl w4.heap.size w4
              go_upto_region 11 with fail
              have s5 := s4.set4 (.string (bs S)) (.int .i64 sent) (.int .i64 rd) (.bool true)
              have q5 : Blk _ q _ _ := (((q4.far (p := ⟨x, 0, none⟩) nq (.string (bs S))).far (p := ⟨x, 1, none⟩) nq (.int .i64 sent)).far (p := ⟨x, 2, none⟩) nq (.int .i64 rd)).far (p := ⟨x, 3, none⟩) nq (.bool true)
              generalize ((((w4.setCell ⟨x, 0, none⟩ (.string (bs S))).setCell ⟨x, 1, none⟩ (.int .i64 sent)).setCell ⟨x, 2, none⟩ (.int .i64 rd)).setCell ⟨x, 3, none⟩ (.bool true)) = w5 at s5 q5 ⊢
              clear dq dx hr s4 q4
              have dq := q5.at3
              have hr := Below.refl w5.heap.size w5
              go_wp2_with fail
              refine (xOffer0 _ _ _ _ _ _ _ _ _ _ _ s5 (.inl rfl)).mono ?_; rintro e w6 ⟨rfl, rfl⟩
              go_wp2_with fail
              go_meet
              exact ⟨S, sent, rd, true, s5, b1, b2, by omega⟩)
          | false =>
            rcases hK with rfl | rfl
            · go_wp2_with fail
              refine (rwOffer1 _ _ _ _ _ _ (by omega) (by omega) ⟨by omega, by omega⟩).mono ?_; rintro e w4 ⟨rfl, hb4⟩
              have s4 := sy.later hb4
              have q4 := ka.later hb4
              clear dq dx hr sy ka hb4
              have hul : U.data.toList.length = U.size := rfl
              have xo : ∀ cs w', WX B x w w' S sent rd false cs → Calls Try.prog 51 #[.pointer (some ⟨B, 0, none⟩), .string U, .bool false] w' fun e w'' => e = .returned (.bool true) ∧ WX B x w w'' (S ++ U.data.toList) (sent + U.size) rd false cs :=
                fun cs w' h => xOffer1 B x w w' S sent rd false U cs h (by omega) (by omega) ⟨by omega, by omega⟩
              have hS3 : (S ++ U.data.toList).length = S.length + U.size := by rw [List.length_append, hul]
              clear hul
              generalize S ++ U.data.toList = S3 at *
              have HX := Lib.hid xo
              have HS3 := Lib.hid hS3
              clear xo hS3
              have dq := q4.at3
              have dx := s4.xb.at4
              have hr := Below.refl w4.heap.size w4
              go_upto_region 11 with fail
              have s5 := s4.set4 (.string (bs S3)) (.int .i64 (sent + (U.size : Int))) (.int .i64 rd) (.bool false)
              have q5 : Blk _ q _ _ := (((q4.far (p := ⟨x, 0, none⟩) nq (.string (bs S3))).far (p := ⟨x, 1, none⟩) nq (.int .i64 (sent + (U.size : Int)))).far (p := ⟨x, 2, none⟩) nq (.int .i64 rd)).far (p := ⟨x, 3, none⟩) nq (.bool false)
              generalize ((((w4.setCell ⟨x, 0, none⟩ (.string (bs S3))).setCell ⟨x, 1, none⟩ (.int .i64 (sent + (U.size : Int)))).setCell ⟨x, 2, none⟩ (.int .i64 rd)).setCell ⟨x, 3, none⟩ (.bool false)) = w5 at s5 q5 ⊢
              clear dq dx hr s4 q4
              have dq := q5.at3
              have hr := Below.refl w5.heap.size w5
              go_wp2_with fail
              refine (HX.out _ _ s5).mono ?_; rintro e w6 ⟨rfl, k6⟩
              go_wp2_with fail
              go_meet
              exact ⟨S3, sent + U.size, rd, false, k6, b1, by have := HS3.out; omega, by omega⟩
            · go_wp2_with fail
              refine (rwOffer1 _ _ _ _ _ _ (by omega) (by omega) ⟨by omega, by omega⟩).mono ?_; rintro e w4 ⟨rfl, hb4⟩
              have s4 := sy.later hb4
              have q4 := ka.later hb4
              clear dq dx hr sy ka hb4
              have hul : U.data.toList.length = U.size := rfl
              have xo : ∀ cs w', WX B x w w' S sent rd false cs → Calls Try.prog 51 #[.pointer (some ⟨B, 0, none⟩), .string U, .bool true] w' fun e w'' => e = .returned (.bool true) ∧ WX B x w w'' (S ++ U.data.toList) (sent + U.size) rd true cs :=
                fun cs w' h => xOffer1 B x w w' S sent rd true U cs h (by omega) (by omega) ⟨by omega, by omega⟩
              have hS3 : (S ++ U.data.toList).length = S.length + U.size := by rw [List.length_append, hul]
              clear hul
              generalize S ++ U.data.toList = S3 at *
              have HX := Lib.hid xo
              have HS3 := Lib.hid hS3
              clear xo hS3
              have dq := q4.at3
              have dx := s4.xb.at4
              have hr := Below.refl w4.heap.size w4
              go_upto_region 11 with fail
              have s5 := s4.set4 (.string (bs S3)) (.int .i64 (sent + (U.size : Int))) (.int .i64 rd) (.bool true)
              have q5 : Blk _ q _ _ := (((q4.far (p := ⟨x, 0, none⟩) nq (.string (bs S3))).far (p := ⟨x, 1, none⟩) nq (.int .i64 (sent + (U.size : Int)))).far (p := ⟨x, 2, none⟩) nq (.int .i64 rd)).far (p := ⟨x, 3, none⟩) nq (.bool true)
              generalize ((((w4.setCell ⟨x, 0, none⟩ (.string (bs S3))).setCell ⟨x, 1, none⟩ (.int .i64 (sent + (U.size : Int)))).setCell ⟨x, 2, none⟩ (.int .i64 rd)).setCell ⟨x, 3, none⟩ (.bool true)) = w5 at s5 q5 ⊢
              clear dq dx hr s4 q4
              have dq := q5.at3
              have hr := Below.refl w5.heap.size w5
              go_wp2_with fail
              refine (HX.out _ _ s5).mono ?_; rintro e w6 ⟨rfl, k6⟩
              go_wp2_with fail
              go_meet
              exact ⟨S3, sent + U.size, rd, true, k6, b1, by have := HS3.out; omega, by omega⟩
        · go_wp2_with fail
          refine (rwTake _ _ _ _ _ _ (by omega) ⟨by omega, by omega⟩).mono ?_; rintro e w4 ⟨rfl, hb4⟩
          have s4 := sy.later hb4
          have q4 := ka.later hb4
          clear dq dx hr sy ka hb4
          have hkk : wK N S ≤ S.length := by unfold wK; omega
          have xt : ∀ cs w', WX B x w w' S sent rd eof cs → Calls Try.prog 68 #[.pointer (some ⟨B, 0, none⟩), .int .i64 N] w' fun e w'' => e = .returned (.string (bs (S.take (wK N S)))) ∧ WX B x w w'' (S.drop (wK N S)) sent (rd + wK N S) eof cs :=
            fun cs w' h => xTake B x w w' S sent rd eof N cs h (by omega) ⟨by omega, by omega⟩
          generalize wK N S = kk at *
          have hd : (S.drop kk).length = S.length - kk := List.length_drop
          generalize S.drop kk = S3 at *
          generalize bs (S.take kk) = t at *
          have HX := Lib.hid xt
          have HD := Lib.hid hd
          clear xt hd
          have dq := q4.at3
          have dx := s4.xb.at4
          have hr := Below.refl w4.heap.size w4
          go_upto_region 15 with fail
          have s5 := s4.set4 (.string (bs S3)) (.int .i64 sent) (.int .i64 (rd + (kk : Int))) (.bool eof)
          have q5 : Blk _ q _ _ := (((q4.far (p := ⟨x, 0, none⟩) nq (.string (bs S3))).far (p := ⟨x, 1, none⟩) nq (.int .i64 sent)).far (p := ⟨x, 2, none⟩) nq (.int .i64 (rd + (kk : Int)))).far (p := ⟨x, 3, none⟩) nq (.bool eof)
          generalize ((((w4.setCell ⟨x, 0, none⟩ (.string (bs S3))).setCell ⟨x, 1, none⟩ (.int .i64 sent)).setCell ⟨x, 2, none⟩ (.int .i64 (rd + (kk : Int)))).setCell ⟨x, 3, none⟩ (.bool eof)) = w5 at s5 q5 ⊢
          clear dq dx hr s4 q4
          have dq := q5.at3
          have hr := Below.refl w5.heap.size w5
          go_wp2_with fail
          refine (HX.out _ _ s5).mono ?_; rintro e w6 ⟨rfl, k6⟩
          go_wp2_with fail
          go_meet
          exact ⟨S3, sent, rd + kk, eof, k6, by omega, by have := HD.out; omega, by omega⟩
        · have xd : ∀ w', WX B x w w' S sent rd eof #[.string (bs S), .int .i64 sent, .int .i64 rd, .bool eof] → Calls Try.prog 74 #[.pointer (some ⟨B, 0, none⟩)] w' fun e w'' => e = .returned (.int .i64 ((bs S).size : Int)) ∧ WX B x w w'' [] sent rd true #[.string (bs S), .int .i64 sent, .int .i64 rd, .bool eof] :=
            fun w' h => xDrop B x w w' S sent rd eof _ h
          have rd_ : ∀ u, Calls Try.prog 75 #[.agg #[.string (bs S), .int .i64 sent, .int .i64 rd, .bool eof]] u fun e w' => e = .returned (WV [] sent rd true) ∧ Below u.heap.size u w' := fun u => rwDrop S sent rd eof u
          have HD := Lib.hid rd_
          clear rd_
          generalize bs S = s at *
          have x3 : wa.cell? ⟨x, 0, none⟩ = some (.string s) := sy.xb.cell 0
          clear dx dq
          go_upto_region 18 with fail
          go_region_held3 (fun w' => w'.cell? ⟨x, 0, none⟩ = some (.string s)) (first | go_keep | exact s6.xb.cell 0)
            ((go_at_call 74; refine (xd _ (sy.later (Below.refl _ _).drew)).mono ?_; rintro e w6 ⟨rfl, s6⟩))
          have dx := s6.xb.at4
          clear hr
          have hr := Below.refl w6.heap.size w6
          clear x3
          go_wp2_with fail
          refine (HD.out _).mono ?_; rintro e w7 ⟨rfl, hb7⟩
          have s7 := s6.later hb7
          clear s6 hb7 dx hr
          have dx := s7.xb.at4
          have hr := Below.refl w7.heap.size w7
          go_wp2_with fail
          go_meet
          exact ⟨[], sent, rd, true, s7.set4 _ _ _ _, b1, by simp; omega, by omega⟩
        · go_wp2_with fail
          go_meet
          exact ⟨S, sent, rd, eof, sy, b1, b2, by omega⟩
      case rest =>
        obtain ⟨S, sent, rd, eof, hs, b1, b2, b3⟩ := hcut
        clear dq dx hr sy ka
        have hSl' : S.length ≤ 252 := by omega
        have dx := hs.xb.at4
        have hr := Below.refl wc.heap.size wc
        go_wp2_with fail
        refine (xTold B x w _ S sent rd _ eof _ hs (by omega)).mono ?_; rintro e w5 ⟨rfl, k5⟩
        clear dx hr
        go_wp2_with fail
        go_roundw
        case rel => exact ⟨k + 1, by omega, by omega, by go_num, S, sent, rd, eof, k5, b1, b2, b3⟩
        case measure => simp [intOf]; omega
    · have hcase : (¬ (k : Int) < (n : Int)) ∨ ((k : Int) < (n : Int) ∧ ¬ (k : Int) < 20) := by omega
      clear hlt
      have hb := hs.below
      rcases hcase with hc1 | ⟨hc1, hc2⟩
      all_goals (
        go_wp2_with fail
        refine (wLives _).mono ?_; rintro e w7 ⟨rfl, hb9⟩
        have hb10 := hb.up hb9 hBs
        clear hb hb9
        go_wp2_with fail
        go_ret
        have hBe := HB.out
        exact ⟨rfl, by rw [hBe]; exact hb10⟩)
end Go.Proofs.Ytpnbcepljehogaa
