/-
  Contracts of package wire, third part: bytes are taken, looked at, counted and let go; and what no wire tells.
  Conditions: the wire's block is known whole; its pieces lie in a row.
-/
import Derived.Test.YtpnbcepljehogaaWire2
namespace Go.Proofs.Ytpnbcepljehogaa
open Go.RowKit

theorem grown_only {w w1 w2 : World} {b : Nat} (h : w.grownBy w1 (some b)) (k : w1.grownBy w2 (some b)) : w.grownBy w2 (some b) :=
  ⟨k.os.trans h.os, k.tape.trans h.tape, k.output.trans h.output, Nat.le_trans h.size k.size, fun i hi hne => (k.block i (Nat.lt_of_lt_of_le hi h.size) hne).trans (h.block i hi hne)⟩

/-- How many bytes are taken. -/
def wK (n : Int) (S : List UInt8) : Nat := min n.toNat S.length

theorem Wir.later {w w' : World} {b a : Nat} {lv : Value} {S : List UInt8} {sent rd : Int} {eof : Bool} {ps : List ByteArray} (h : Wir w b lv S sent rd eof a ps) (hb : Below w.heap.size w w') : Wir w' b lv S sent rd eof a ps :=
  ⟨h.blk.later hb, h.pcs.later hb, h.own, h.first, h.none_, h.bytes, h.each⟩

def Took (w : World) (b : Nat) (lv : Value) (S : List UInt8) (sent rd : Int) (eof : Bool) (w' : World) : Prop :=
  ∃ lv' a' ps', Wir w' b lv' S sent rd eof a' ps' ∧ lv'.ownBlock = lv.ownBlock ∧ w.grownBy w' (some b)

set_option maxHeartbeats 2000000 in
theorem wTake (b a : Nat) (lv : Value) (S : List UInt8) (sent rd : Int) (eof : Bool) (ps : List ByteArray) (n : Int) (w : World) (h : Wir w b lv S sent rd eof a ps) (hS : S.length ≤ 500000) (hrd : 0 ≤ rd ∧ rd ≤ 500000) :
    Calls Try.prog 68 #[.pointer (some ⟨b, 0, none⟩), .int .i64 n] w fun e w' => e = .returned (.string ⟨(S.take (wK n S)).toArray⟩) ∧ Took w b lv (S.drop (wK n S)) sent (rd + wK n S) eof w' := by
  have d0 := h.blk.at6
  have hr := Below.refl w.heap.size w
  have hk : wK n S ≤ S.length := by unfold wK; omega
  have e1 : min (max n 0) (S.length : Int) = (wK n S : Int) := by unfold wK; omega
  have e2 : (if (S.length : Int) < (if n < 0 then 0 else n) then (S.length : Int) else if n < 0 then 0 else n) = (wK n S : Int) := by unfold wK; repeat (split <;> try omega)
  generalize wK n S = k at *
  have s1 : IntKind.i64.wrap (rd + (k : Int)) = rd + (k : Int) := IntWalk.i64_in _ (by omega)
  have hlen : (S.length : Int) - (k : Int) = ((S.drop k).length : Nat) := by rw [List.length_drop]; omega
  have HL := Lib.hid hlen
  clear hlen
  go_enter Try.func68, Try.ntmps68
  go_wp2_with fail
  refine (wPeekI b a k lv _ sent rd eof ps w h.blk h.pcs (fun p hp => Nat.le_of_lt (h.first p hp)) (by rw [h.bytes]; exact hk) (by omega) (fun p hp => (h.each p hp).2)).mono ?_; rintro e w1 ⟨rfl, hb1⟩
  rw [h.bytes]
  have h1 := h.later hb1
  clear d0 hr h
  go_wp2_with fail
  refine (wSkip b a k lv _ sent rd eof ps S w1 h1.blk h1.pcs h1.own h1.first h1.none_ h1.bytes hk (by omega) h1.each ⟨by omega, by omega⟩).mono ?_; rintro e w2 ⟨rfl, lv', a', ps', k2, p2, o2, f2, n2, b2, each2, g2⟩
  have hne : lv'.ownBlock ≠ some b := fun e => h1.own (o2 ▸ e)
  clear h1
  have d0 := k2.at6
  have hr := Below.refl w2.heap.size w2
  have g3 : w.grownBy w2 (some b) := grown_only ⟨hb1.os, hb1.tape, hb1.output, hb1.size, fun i hi _ => hb1.block i hi⟩ g2
  clear g2 hb1
  have hfin : Took w b lv (S.drop k) sent (rd + (k : Int)) eof (w2.setCell ⟨b, 4, none⟩ (.int .i64 (rd + (k : Int)))) := by
    have k3 := k2.set_ 4 (.int .i64 (rd + (k : Int)))
    rw [HL.out] at k3
    exact ⟨lv', a', ps', ⟨by simpa using k3, p2.set_ hne _ _, hne, f2, n2, b2, each2⟩, o2, only_cell g3 _ _⟩
  have HF := Lib.hid hfin
  clear hfin k2 p2 o2 f2 n2 b2 each2 g3 hne
  go_wp2_with fail
  go_ret
  exact ⟨rfl, HF.out⟩

theorem wLen (b a : Nat) (lv : Value) (S : List UInt8) (sent rd : Int) (eof : Bool) (ps : List ByteArray) (w : World) (h : Wir w b lv S sent rd eof a ps) :
    Calls Try.prog 52 #[.pointer (some ⟨b, 0, none⟩)] w fun e w' => e = .returned (.int .i64 (S.length : Nat)) ∧ w = w' := by
  have d0 := h.blk.at6
  have hr := Below.refl w.heap.size w
  go_enter Try.func52, Try.ntmps52
  go_wp2_with fail
  go_ret
  exact ⟨rfl, rfl⟩
theorem wEof (b a : Nat) (lv : Value) (S : List UInt8) (sent rd : Int) (eof : Bool) (ps : List ByteArray) (w : World) (h : Wir w b lv S sent rd eof a ps) :
    Calls Try.prog 53 #[.pointer (some ⟨b, 0, none⟩)] w fun e w' => e = .returned (.bool eof) ∧ Below w.heap.size w w' := by
  have d0 := h.blk.at6
  have hr := Below.refl w.heap.size w
  go_enter Try.func53, Try.ntmps53
  go_wp2_with fail
  go_ret
  exact ⟨rfl, by (repeat' (first | exact Below.refl _ _ | assumption | apply Below.drew | apply below_drewN | refine Below.setCell ?_ (by first | assumption | (simp; done) | (simp <;> omega)) _ | refine Below.alloc ?_ (by first | exact Nat.le_refl _ | assumption | (simp; done) | (simp <;> omega)) _))⟩
theorem wOver (b a : Nat) (lv : Value) (S : List UInt8) (sent rd : Int) (eof : Bool) (ps : List ByteArray) (w : World) (h : Wir w b lv S sent rd eof a ps) :
    Calls Try.prog 77 #[.pointer (some ⟨b, 0, none⟩)] w fun e w' => e = .returned (.bool (eof && ((S.length : Int) == 0))) ∧ Below w.heap.size w w' := by
  have d0 := h.blk.at6
  have hr := Below.refl w.heap.size w
  cases eof
  all_goals (
    go_enter Try.func77, Try.ntmps77
    go_wp2_with fail
    go_ret
    exact ⟨rfl, by (repeat' (first | exact Below.refl _ _ | assumption | apply Below.drew | apply below_drewN | refine Below.setCell ?_ (by first | assumption | (simp; done) | (simp <;> omega)) _ | refine Below.alloc ?_ (by first | exact Nat.le_refl _ | assumption | (simp; done) | (simp <;> omega)) _))⟩)
theorem wSent (b a : Nat) (lv : Value) (S : List UInt8) (sent rd : Int) (eof : Bool) (ps : List ByteArray) (w : World) (h : Wir w b lv S sent rd eof a ps) :
    Calls Try.prog 70 #[.pointer (some ⟨b, 0, none⟩)] w fun e w' => e = .returned (.int .i64 sent) ∧ w = w' := by
  have d0 := h.blk.at6
  have hr := Below.refl w.heap.size w
  go_enter Try.func70, Try.ntmps70
  go_wp2_with fail
  go_ret
  exact ⟨rfl, rfl⟩
theorem wRead (b a : Nat) (lv : Value) (S : List UInt8) (sent rd : Int) (eof : Bool) (ps : List ByteArray) (w : World) (h : Wir w b lv S sent rd eof a ps) :
    Calls Try.prog 71 #[.pointer (some ⟨b, 0, none⟩)] w fun e w' => e = .returned (.int .i64 rd) ∧ w = w' := by
  have d0 := h.blk.at6
  have hr := Below.refl w.heap.size w
  go_enter Try.func71, Try.ntmps71
  go_wp2_with fail
  go_ret
  exact ⟨rfl, rfl⟩

set_option maxHeartbeats 1000000 in
theorem wPeek (b a : Nat) (lv : Value) (S : List UInt8) (sent rd : Int) (eof : Bool) (ps : List ByteArray) (n : Int) (w : World) (h : Wir w b lv S sent rd eof a ps) (hS : S.length ≤ 500000) :
    Calls Try.prog 69 #[.pointer (some ⟨b, 0, none⟩), .int .i64 n] w fun e w' => e = .returned (.string ⟨(S.take (wK n S)).toArray⟩) ∧ Below w.heap.size w w' := by
  have d0 := h.blk.at6
  have hr := Below.refl w.heap.size w
  have hk : wK n S ≤ S.length := by unfold wK; omega
  have e1 : min (max n 0) (S.length : Int) = (wK n S : Int) := by unfold wK; omega
  have e2 : (if (S.length : Int) < (if n < 0 then 0 else n) then (S.length : Int) else if n < 0 then 0 else n) = (wK n S : Int) := by unfold wK; repeat (split <;> try omega)
  generalize wK n S = k at *
  go_enter Try.func69, Try.ntmps69
  go_wp2_with fail
  refine (wPeekI b a k lv _ sent rd eof ps w h.blk h.pcs (fun p hp => Nat.le_of_lt (h.first p hp)) (by rw [h.bytes]; exact hk) (by omega) (fun p hp => (h.each p hp).2)).mono ?_; rintro e w1 ⟨rfl, hb1⟩
  rw [h.bytes]
  clear d0 hr h
  go_wp2_with fail
  go_ret
  exact ⟨rfl, hb1⟩

theorem wDrop (b a : Nat) (lv : Value) (S : List UInt8) (sent rd : Int) (eof : Bool) (ps : List ByteArray) (w : World) (h : Wir w b lv S sent rd eof a ps) :
    Calls Try.prog 74 #[.pointer (some ⟨b, 0, none⟩)] w fun e w' => e = .returned (.int .i64 (S.length : Nat)) ∧ Wir w' b (.slice none 0 0) [] sent rd true 0 [] ∧ w.grownBy w' (some b) := by
  have d0 := h.blk.at6
  have hr := Below.refl w.heap.size w
  have hfin : ∀ w', w' = (((w.setCell ⟨b, 0, none⟩ (.slice none 0 0)).setCell ⟨b, 1, none⟩ (.int .i64 0)).setCell ⟨b, 2, none⟩ (.int .i64 0)).setCell ⟨b, 5, none⟩ (.bool true) → Wir w' b (.slice none 0 0) [] sent rd true 0 [] ∧ w.grownBy w' (some b) := by
    rintro w' rfl
    have k := (((h.blk.set_ 0 (.slice none 0 0)).set_ 1 (.int .i64 0)).set_ 2 (.int .i64 0)).set_ 5 (.bool true)
    exact ⟨⟨by simpa using k, .inl ⟨rfl, rfl⟩, by simp [Value.ownBlock], by simp, fun _ => rfl, rfl, by simp⟩, only_cell (only_cell (only_cell (only_cell ⟨rfl, rfl, rfl, Nat.le_refl _, fun _ _ _ => rfl⟩ _ _) _ _) _ _) _ _⟩
  have HF := Lib.hid hfin
  clear hfin
  go_enter Try.func74, Try.ntmps74
  go_wp2_with fail
  go_ret
  exact ⟨rfl, HF.out _ rfl⟩

/-! What no wire tells. -/
theorem zOffer (u : ByteArray) (f : Bool) (w : World) : Calls Try.prog 51 #[.pointer none, .string u, .bool f] w fun e w' => e = .returned (.bool false) ∧ Below w.heap.size w w' := by
  go_enter Try.func51, Try.ntmps51
  go_wp2_with fail
  go_ret
  exact ⟨rfl, Below.refl _ _⟩
theorem zTake (n : Int) (w : World) : Calls Try.prog 68 #[.pointer none, .int .i64 n] w fun e w' => e = .returned (.string ⟨#[]⟩) ∧ Below w.heap.size w w' := by
  go_enter Try.func68, Try.ntmps68
  go_wp2_with fail
  go_ret
  exact ⟨rfl, Below.refl _ _⟩
theorem zPeek (n : Int) (w : World) : Calls Try.prog 69 #[.pointer none, .int .i64 n] w fun e w' => e = .returned (.string ⟨#[]⟩) ∧ Below w.heap.size w w' := by
  go_enter Try.func69, Try.ntmps69
  go_wp2_with fail
  go_ret
  exact ⟨rfl, Below.refl _ _⟩
theorem zLen (w : World) : Calls Try.prog 52 #[.pointer none] w fun e w' => e = .returned (.int .i64 0) ∧ Below w.heap.size w w' := by
  go_enter Try.func52, Try.ntmps52
  go_wp2_with fail
  go_ret
  exact ⟨rfl, Below.refl _ _⟩
theorem zEof (w : World) : Calls Try.prog 53 #[.pointer none] w fun e w' => e = .returned (.bool false) ∧ Below w.heap.size w w' := by
  go_enter Try.func53, Try.ntmps53
  go_wp2_with fail
  go_ret
  exact ⟨rfl, Below.refl _ _⟩
theorem zOver (w : World) : Calls Try.prog 77 #[.pointer none] w fun e w' => e = .returned (.bool false) ∧ Below w.heap.size w w' := by
  go_enter Try.func77, Try.ntmps77
  go_wp2_with fail
  go_ret
  exact ⟨rfl, Below.refl _ _⟩
theorem zSent (w : World) : Calls Try.prog 70 #[.pointer none] w fun e w' => e = .returned (.int .i64 0) ∧ Below w.heap.size w w' := by
  go_enter Try.func70, Try.ntmps70
  go_wp2_with fail
  go_ret
  exact ⟨rfl, Below.refl _ _⟩
theorem zRead (w : World) : Calls Try.prog 71 #[.pointer none] w fun e w' => e = .returned (.int .i64 0) ∧ Below w.heap.size w w' := by
  go_enter Try.func71, Try.ntmps71
  go_wp2_with fail
  go_ret
  exact ⟨rfl, Below.refl _ _⟩
theorem zDrop (w : World) : Calls Try.prog 74 #[.pointer none] w fun e w' => e = .returned (.int .i64 0) ∧ Below w.heap.size w w' := by
  go_enter Try.func74, Try.ntmps74
  go_wp2_with fail
  go_ret
  exact ⟨rfl, Below.refl _ _⟩
end Go.Proofs.Ytpnbcepljehogaa
