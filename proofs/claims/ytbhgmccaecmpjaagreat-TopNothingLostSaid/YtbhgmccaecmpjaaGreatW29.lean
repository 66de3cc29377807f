/-
  Contracts of package wire, third part: bytes are taken, looked at, counted and let go; and what no wire tells.
  Conditions: the wire's block is known whole; its pieces lie in a row.
-/
import Derived.Test.YtbhgmccaecmpjaaGreatW28
import Derived.Test.YtbhgmccaecmpjaaGreatW27
namespace Go.Proofs.YtbhgmccaecmpjaaGreat
set_option linter.unusedVariables false
set_option linter.unusedSimpArgs false
open Go.RowKit

theorem grown_only {w w1 w2 : World} {b : Nat} (h : w.grownBy w1 (some b)) (k : w1.grownBy w2 (some b)) : w.grownBy w2 (some b) :=
  ⟨k.os.trans h.os, k.tape.trans h.tape, k.output.trans h.output, Nat.le_trans h.size k.size, fun i hi hne => (k.block i (Nat.lt_of_lt_of_le hi h.size) hne).trans (h.block i hi hne)⟩

/-- How many bytes are taken. -/
def wK (n : Int) (S : List UInt8) : Nat := min n.toNat S.length

theorem Wir.later {w w' : World} {b a : Nat} {lv : Value} {S : List UInt8} {sent rd : Int} {eof : Bool} {ps : List ByteArray} (h : Wir w b lv S sent rd eof a ps) (hb : Below w.heap.size w w') : Wir w' b lv S sent rd eof a ps :=
  ⟨h.blk.later hb, h.pcs.later hb, h.own, h.first, h.none_, h.bytes, h.each⟩

def Took (w : World) (b : Nat) (lv : Value) (S : List UInt8) (sent rd : Int) (eof : Bool) (w' : World) : Prop :=
  ∃ lv' a' ps', Wir w' b lv' S sent rd eof a' ps' ∧ lv'.ownBlock = lv.ownBlock ∧ w.grownBy w' (some b)

set_option maxHeartbeats 2000000 in
theorem wTake (b a : Nat) (lv : Value) (S : List UInt8) (sent rd : Int) (eof : Bool) (ps : List ByteArray) (n : Int) (w : World) (h : Wir w b lv S sent rd eof a ps) (hS : S.length ≤ 500000) (hrd : 0 ≤ rd ∧ rd ≤ 500000) :
    Calls Tryz.prog 84 #[.pointer (some ⟨b, 0, none⟩), .int .i64 n] w fun e w' => e = .returned (.string ⟨(S.take (wK n S)).toArray⟩) ∧ Took w b lv (S.drop (wK n S)) sent (rd + wK n S) eof w' := by
  have d0 := h.blk.at6
  have hr := Below.refl w.heap.size w
  have hk : wK n S ≤ S.length := by unfold wK; omega
  have e1 : min (max n 0) (S.length : Int) = (wK n S : Int) := by unfold wK; omega
  have e2 : (if (S.length : Int) < (if n < 0 then 0 else n) then (S.length : Int) else if n < 0 then 0 else n) = (wK n S : Int) := by unfold wK; repeat (split <;> try omega)
  generalize wK n S = k at *
  have s1 : IntKind.i64.wrap (rd + (k : Int)) = rd + (k : Int) := IntWalk.i64_in _ (by omega)
  have hlen : (S.length : Int) - (k : Int) = ((S.drop k).length : Nat) := by rw [List.length_drop]; omega
  have HL := Lib.hid hlen
  clear hlen
  go_enter Tryz.func84, Tryz.ntmps84
  go_wp2_with fail
  refine (wPeekI b a k lv _ sent rd eof ps w h.blk h.pcs (fun p hp => Nat.le_of_lt (h.first p hp)) (by rw [h.bytes]; exact hk) (by omega) (fun p hp => (h.each p hp).2)).mono ?_; rintro e w1 ⟨rfl, hb1⟩
  rw [h.bytes]
  have h1 := h.later hb1
  clear d0 hr h
  go_wp2_with fail
  refine (wSkip b a k lv _ sent rd eof ps S w1 h1.blk h1.pcs h1.own h1.first h1.none_ h1.bytes hk (by omega) h1.each ⟨by omega, by omega⟩).mono ?_; rintro e w2 ⟨rfl, lv', a', ps', k2, p2, o2, f2, n2, b2, each2, g2⟩
  have hne : lv'.ownBlock ≠ some b := fun e => h1.own (o2 ▸ e)
  clear h1
  have d0 := k2.at6
  have hr := Below.refl w2.heap.size w2
  have g3 : w.grownBy w2 (some b) := grown_only ⟨hb1.os, hb1.tape, hb1.output, hb1.size, fun i hi _ => hb1.block i hi⟩ g2
  clear g2 hb1
  have hfin : Took w b lv (S.drop k) sent (rd + (k : Int)) eof (w2.setCell ⟨b, 4, none⟩ (.int .i64 (rd + (k : Int)))) := by
    have k3 := k2.set_ 4 (.int .i64 (rd + (k : Int)))
    rw [HL.out] at k3
    exact ⟨lv', a', ps', ⟨by simpa using k3, p2.set_ hne _ _, hne, f2, n2, b2, each2⟩, o2, only_cell g3 _ _⟩
  have HF := Lib.hid hfin
  clear hfin k2 p2 o2 f2 n2 b2 each2 g3 hne
  go_wp2_with fail
  go_ret
  exact ⟨rfl, HF.out⟩

theorem wOver (b a : Nat) (lv : Value) (S : List UInt8) (sent rd : Int) (eof : Bool) (ps : List ByteArray) (w : World) (h : Wir w b lv S sent rd eof a ps) :
    Calls Tryz.prog 86 #[.pointer (some ⟨b, 0, none⟩)] w fun e w' => e = .returned (.bool (eof && ((S.length : Int) == 0))) ∧ Below w.heap.size w w' := by
  have d0 := h.blk.at6
  have hr := Below.refl w.heap.size w
  cases eof
  all_goals (
    go_enter Tryz.func86, Tryz.ntmps86
    go_wp2_with fail
    go_ret
    exact ⟨rfl, by (repeat' (first | exact Below.refl _ _ | assumption | apply Below.drew | apply below_drewN | refine Below.setCell ?_ (by first | assumption | (simp; done) | (simp <;> omega)) _ | refine Below.alloc ?_ (by first | exact Nat.le_refl _ | assumption | (simp; done) | (simp <;> omega)) _))⟩)
theorem wDrop (b a : Nat) (lv : Value) (S : List UInt8) (sent rd : Int) (eof : Bool) (ps : List ByteArray) (w : World) (h : Wir w b lv S sent rd eof a ps) :
    Calls Tryz.prog 104 #[.pointer (some ⟨b, 0, none⟩)] w fun e w' => e = .returned (.int .i64 (S.length : Nat)) ∧ Wir w' b (.slice none 0 0) [] sent rd true 0 [] ∧ w.grownBy w' (some b) := by
  have d0 := h.blk.at6
  have hr := Below.refl w.heap.size w
  have hfin : ∀ w', w' = (((w.setCell ⟨b, 0, none⟩ (.slice none 0 0)).setCell ⟨b, 1, none⟩ (.int .i64 0)).setCell ⟨b, 2, none⟩ (.int .i64 0)).setCell ⟨b, 5, none⟩ (.bool true) → Wir w' b (.slice none 0 0) [] sent rd true 0 [] ∧ w.grownBy w' (some b) := by
    rintro w' rfl
    have k := (((h.blk.set_ 0 (.slice none 0 0)).set_ 1 (.int .i64 0)).set_ 2 (.int .i64 0)).set_ 5 (.bool true)
    exact ⟨⟨by simpa using k, .inl ⟨rfl, rfl⟩, by simp [Value.ownBlock], by simp, fun _ => rfl, rfl, by simp⟩, only_cell (only_cell (only_cell (only_cell ⟨rfl, rfl, rfl, Nat.le_refl _, fun _ _ _ => rfl⟩ _ _) _ _) _ _) _ _⟩
  have HF := Lib.hid hfin
  clear hfin
  go_enter Tryz.func104, Tryz.ntmps104
  go_wp2_with fail
  go_ret
  exact ⟨rfl, HF.out _ rfl⟩

/-! What no wire tells. -/
end Go.Proofs.YtbhgmccaecmpjaaGreat

namespace Go.Proofs.YtbhgmccaecmpjaaGreat
set_option linter.unusedVariables false
set_option linter.unusedSimpArgs false
open Go.RowKit

theorem pgIn64 (n a b : Int) (h : a ≤ n ∧ n ≤ b) (w : World) : Calls Tryz.prog 144 #[.int .i64 n, .int .i64 a, .int .i64 b] w fun e w' => e = .returned (.bool true) ∧ w = w' := by
  have h1 := h.1
  have h2 := h.2
  go_enter Tryz.func144, Tryz.ntmps144
  go_wp2_with fail
  go_ret
  exact ⟨rfl, rfl⟩
theorem pgIn (n a b : Int) (h : a ≤ n ∧ n ≤ b) (w : World) : Calls Tryz.prog 145 #[.int .i64 n, .int .i64 a, .int .i64 b] w fun e w' => e = .returned (.bool true) ∧ w = w' := by
  have h1 := h.1
  have h2 := h.2
  go_enter Tryz.func145, Tryz.ntmps145
  go_wp2_with fail
  go_ret
  exact ⟨rfl, rfl⟩
/-- A script's value. -/
def prV (nm : ByteArray) (dl : Int) (jm : Nat) (b : SB2) : Value := .agg #[.string nm, .int .i64 dl, .int .i64 jm, .slice (some ⟨b.g, 0, none⟩) 2 b.c]
theorem pgComes (nm : ByteArray) (dl : Int) (jm : Nat) (g c : Nat) (w : World) : Calls Tryz.prog 173 #[.agg #[.string nm, .int .i64 dl, .int .i64 jm, .slice (some ⟨g, 0, none⟩) 2 c], .int .i64 2] w fun e w' => e = .returned (.bool true) ∧ Below w.heap.size w w' := by
  go_enter Tryz.func173, Tryz.ntmps173
  go_wp2_with fail
  go_ret
  exact ⟨rfl, (Below.refl _ _).alloc (Nat.le_refl _) _⟩
/-- A name of small letters. -/
structure NameS (s : ByteArray) : Prop where
  n : 1 ≤ s.size ∧ s.size ≤ 16
  c : ∀ i (h : i < s.size), 97 ≤ s[i].toNat ∧ s[i].toNat ≤ 122
set_option maxRecDepth 100000 in
set_option maxHeartbeats 4000000 in
theorem lxName (s : ByteArray) (h : NameS s) (w : World) : Calls Tryz.prog 143 #[.string s] w fun e w' => e = .returned (.bool true) ∧ Below w.heap.size w w' := by
  have hn := h.n
  have h1 : (0 : Int) < (s.size : Int) := by omega
  have h2 : ¬ (16 : Int) < (s.size : Int) := by omega
  have h0 : 0 < s.size := by omega
  have he : s.toList.isEmpty = false := strSome (by omega)
  have hc0 := h.c 0 (by omega)
  have h3 : ¬ ((s[0].toNat : Int) < 97) := by omega
  have HC := Lib.hid h.c
  clear h
  go_enter Tryz.func143, Tryz.ntmps143
  go_wp2_with fail
  go_loopw [18] (fun iv wr => ∃ k : Nat, iv = .int .i64 k ∧ k ≤ s.size ∧ w = wr) (fun iv _ => s.size - (intOf iv).toNat)
  case atStart => exact ⟨0, rfl, by omega, rfl⟩
  case round =>
    obtain ⟨k, rfl, hk, rfl⟩ := hrel
    clear hc0 h3 h1 h2 he
    by_cases hlt : k < s.size
    · have e1 : (k : Int) < (s.size : Int) := by omega
      have hc := HC.out k hlt
      have e2 : ¬ ((s[k].toNat : Int) < 97) := by omega
      have e3 : ¬ ((122 : Int) < (s[k].toNat : Int)) := by omega
      have s3 : IntKind.i64.wrap ((k : Int) + 1) = ((k + 1 : Nat) : Int) := by rw [IntWalk.i64_in _ (by omega)]; omega
      clear hc
      go_wp2_with fail
      go_round
      case rel => exact ⟨k + 1, by go_num, by omega, by trivial⟩
      case measure => simp [intOf]; omega
    · have e1 : ¬ (k : Int) < (s.size : Int) := by omega
      go_wp2_with fail
      go_ret
      exact ⟨rfl, Below.refl _ _⟩
/-- An op of one of the kinds that are looked at. -/
def OpT.fits (o : OpT) : Prop := match o with
  | .send u => 0 < u.size ∧ u.size ≤ 256
  | .pause n => 0 ≤ n ∧ n ≤ 1000000000000
  | .expect n a => (n = nev ∨ 0 ≤ n ∧ n ≤ 1000000000000) ∧ ∀ p k, a = some (p, k) → PlainS p ∧ 0 < p.size ∧ k = 2
set_option maxRecDepth 100000 in
set_option maxHeartbeats 4000000 in
theorem pgBareSend (u : ByteArray) (w : World) : Calls Tryz.prog 171 #[.agg #[.int .i64 1, .string u, .int .i64 0, .int .i64 0, .slice none 0 0, .int .i64 0, .int .i64 0]] w fun e w' => e = .returned (.agg #[.int .i64 1, .string u, .int .i64 0, .int .i64 0, .slice none 0 0, .int .i64 0, .int .i64 0]) ∧ Below w.heap.size w w' := by
  go_enter Tryz.func171, Tryz.ntmps171
  go_wp2_with fail
  (try simp only [Exit.inBlock, Exit.then])
  refine bodyPost_ret (v := .agg #[.int .i64 1, .string u, .int .i64 0, .int .i64 0, .slice none 0 0, .int .i64 0, .int .i64 0]) ?_ rfl ⟨rfl, ?_⟩
  · rw [results_cell_one rfl]
    go_simp
  · (repeat' (first | exact Below.refl _ _ | assumption | apply Below.drew | apply below_drewN | refine Below.setCell ?_ (by first | assumption | (simp; done) | (simp <;> omega)) _ | refine Below.alloc ?_ (by first | exact Nat.le_refl _ | assumption | (simp; done) | (simp <;> omega)) _))
set_option maxRecDepth 100000 in
set_option maxHeartbeats 4000000 in
theorem pgBarePause (n : Int) (w : World) : Calls Tryz.prog 171 #[.agg #[.int .i64 4, .string ⟨#[]⟩, .int .i64 n, .int .i64 0, .slice none 0 0, .int .i64 0, .int .i64 0]] w fun e w' => e = .returned (.agg #[.int .i64 4, .string ⟨#[]⟩, .int .i64 n, .int .i64 0, .slice none 0 0, .int .i64 0, .int .i64 0]) ∧ Below w.heap.size w w' := by
  go_enter Tryz.func171, Tryz.ntmps171
  go_wp2_with fail
  (try simp only [Exit.inBlock, Exit.then])
  refine bodyPost_ret (v := .agg #[.int .i64 4, .string ⟨#[]⟩, .int .i64 n, .int .i64 0, .slice none 0 0, .int .i64 0, .int .i64 0]) ?_ rfl ⟨rfl, ?_⟩
  · rw [results_cell_one rfl]
    go_simp
  · (repeat' (first | exact Below.refl _ _ | assumption | apply Below.drew | apply below_drewN | refine Below.setCell ?_ (by first | assumption | (simp; done) | (simp <;> omega)) _ | refine Below.alloc ?_ (by first | exact Nat.le_refl _ | assumption | (simp; done) | (simp <;> omega)) _))
set_option maxRecDepth 100000 in
set_option maxHeartbeats 4000000 in
theorem pgBareExp (n : Int) (ao : Option Addr) (m cc : Nat) (w : World) : Calls Tryz.prog 171 #[.agg #[.int .i64 2, .string ⟨#[]⟩, .int .i64 n, .int .i64 0, .slice ao m cc, .int .i64 (-1), .int .i64 (-1)]] w fun e w' => e = .returned (.agg #[.int .i64 2, .string ⟨#[]⟩, .int .i64 n, .int .i64 0, .slice ao m cc, .int .i64 (-1), .int .i64 (-1)]) ∧ Below w.heap.size w w' := by
  obtain ⟨q, hq⟩ : ∃ q, w.heap.size = q := ⟨_, rfl⟩
  obtain ⟨w1, hw1⟩ : ∃ w1, w1 = ((w.alloc (.cells #[.int .i64 2, .string ⟨#[]⟩, .int .i64 n, .int .i64 0, .slice ao m cc, .int .i64 (-1), .int .i64 (-1)] 29)).alloc (.cells #[.int .i64 0, .string ⟨#[]⟩, .int .i64 0, .int .i64 0, .slice none 0 0, .int .i64 0, .int .i64 0] 29)).alloc (.cells #[.int .i64 2, .string ⟨#[]⟩, .int .i64 0, .int .i64 0, .slice none 0 0, .int .i64 0, .int .i64 0] 29) := ⟨_, rfl⟩
  have b1 : Below w.heap.size w w1 := by rw [hw1]; exact (((Below.refl _ _).alloc (Nat.le_refl _) _).alloc (by simp) _).alloc (by simp <;> omega) _
  have K1 : Blk w1 q 29 #[.int .i64 2, .string ⟨#[]⟩, .int .i64 n, .int .i64 0, .slice ao m cc, .int .i64 (-1), .int .i64 (-1)] := by rw [hw1, ← hq]; exact ((Blk.new _ _ _).alloc _).alloc _
  have K2 : Blk w1 (q + 1) 29 #[.int .i64 0, .string ⟨#[]⟩, .int .i64 0, .int .i64 0, .slice none 0 0, .int .i64 0, .int .i64 0] := by
    rw [hw1, ← hq]
    have := (Blk.new (w.alloc (.cells #[.int .i64 2, .string ⟨#[]⟩, .int .i64 n, .int .i64 0, .slice ao m cc, .int .i64 (-1), .int .i64 (-1)] 29)) 29 #[.int .i64 0, .string ⟨#[]⟩, .int .i64 0, .int .i64 0, .slice none 0 0, .int .i64 0, .int .i64 0]).alloc (.cells #[.int .i64 2, .string ⟨#[]⟩, .int .i64 0, .int .i64 0, .slice none 0 0, .int .i64 0, .int .i64 0] 29)
    simpa using this
  have K3 : Blk w1 (q + 1 + 1) 29 #[.int .i64 2, .string ⟨#[]⟩, .int .i64 0, .int .i64 0, .slice none 0 0, .int .i64 0, .int .i64 0] := by
    rw [hw1, ← hq]
    have := Blk.new ((w.alloc (.cells #[.int .i64 2, .string ⟨#[]⟩, .int .i64 n, .int .i64 0, .slice ao m cc, .int .i64 (-1), .int .i64 (-1)] 29)).alloc (.cells #[.int .i64 0, .string ⟨#[]⟩, .int .i64 0, .int .i64 0, .slice none 0 0, .int .i64 0, .int .i64 0] 29)) 29 #[.int .i64 2, .string ⟨#[]⟩, .int .i64 0, .int .i64 0, .slice none 0 0, .int .i64 0, .int .i64 0]
    simpa using this
  have HW1 := Lib.hid hw1
  have HQ := Lib.hid hq
  have B1 := Lib.hid b1
  clear hw1 hq b1
  go_enter Tryz.func171, Tryz.ntmps171
  go_upto_region 2 with fail
  rw [← HW1.out, HQ.out]
  have d1 := K1.at7
  have d2 := K2.at7
  have d3 := K3.at7
  have hr := Below.refl w1.heap.size w1
  go_upto_region 6 with fail
  have X0 := K1.drew
  have X1 := X0.far (p := ⟨q + 1 + 1, 2, none⟩) (by show q ≠ q + 1 + 1; omega) (.int .i64 n)
  have X2 := X1.far (p := ⟨q + 1 + 1, 4, none⟩) (by show q ≠ q + 1 + 1; omega) (.slice ao m cc)
  have X3 := X2.far (p := ⟨q + 1 + 1, 5, none⟩) (by show q ≠ q + 1 + 1; omega) (.int .i64 (-1))
  have MK : Hid (∀ w', Blk w' q 29 #[.int .i64 2, .string ⟨#[]⟩, .int .i64 n, .int .i64 0, .slice ao m cc, .int .i64 (-1), .int .i64 (-1)] → w'.cell? ⟨q, 2, none⟩ = some (.int .i64 n) ∧ w'.cell? ⟨q, 4, none⟩ = some (.slice ao m cc) ∧ w'.cell? ⟨q, 5, none⟩ = some (.int .i64 (-1)) ∧ w'.cell? ⟨q, 6, none⟩ = some (.int .i64 (-1))) := Lib.hid fun w' h => ⟨h.cell 2, h.cell 4, h.cell 5, h.cell 6⟩
  have HB1 := Lib.hid (MK.out _ X1)
  have HB2 := Lib.hid (MK.out _ X2)
  have HB3 := Lib.hid (MK.out _ X3)
  refine wp_region_ordL (S := fun w' => w'.cell? ⟨q, 2, none⟩ = some (.int .i64 n) ∧ w'.cell? ⟨q, 4, none⟩ = some (.slice ao m cc) ∧ w'.cell? ⟨q, 5, none⟩ = some (.int .i64 (-1)) ∧ w'.cell? ⟨q, 6, none⟩ = some (.int .i64 (-1))) [0, 1, 2, 3, 4, 5, 6, 7, 8, 9, 10, 11, 12, 13, 14, 15] 15 (by kernel_rfl) (by kernel_rfl) (by kernel_rfl) (by kernel_rfl) (by kernel_rfl) (by kernel_rfl) (MK.out _ X0) ?_
  simp only [pickL, List.filterMap_cons, List.filterMap_nil, List.getElem?_cons_zero, List.getElem?_cons_succ]
  repeat (refine ordL_take (v := ?_) (by rfl) (by rfl) ?_ ?_; rotate_left; (focus (intro w hSw; (try dsimp only at hSw); go_simp; (try with_reducible rfl))); simp only [Act.put, List.setIfInBounds_toArray, List.set_cons_zero, List.set_cons_succ])
  refine ordL_lone (by rfl) (by rfl) (fun KK hK => ?_)
  try go_simp
  refine hK.out _ _ (.inr HB1.out) ?_
  clear hK KK
  try simp only [Act.put, List.setIfInBounds_toArray, List.set_cons_zero, List.set_cons_succ]
  repeat (refine ordL_take (v := ?_) (by rfl) (by rfl) ?_ ?_; rotate_left; (focus (intro w hSw; (try dsimp only at hSw); go_simp; (try with_reducible rfl))); simp only [Act.put, List.setIfInBounds_toArray, List.set_cons_zero, List.set_cons_succ])
  refine ordL_lone (by rfl) (by rfl) (fun KK hK => ?_)
  try go_simp
  refine hK.out _ _ (.inr HB2.out) ?_
  clear hK KK
  try simp only [Act.put, List.setIfInBounds_toArray, List.set_cons_zero, List.set_cons_succ]
  repeat (refine ordL_take (v := ?_) (by rfl) (by rfl) ?_ ?_; rotate_left; (focus (intro w hSw; (try dsimp only at hSw); go_simp; (try with_reducible rfl))); simp only [Act.put, List.setIfInBounds_toArray, List.set_cons_zero, List.set_cons_succ])
  refine ordL_lone (by rfl) (by rfl) (fun KK hK => ?_)
  try go_simp
  refine hK.out _ _ (.inr HB3.out) ?_
  clear hK KK
  try simp only [Act.put, List.setIfInBounds_toArray, List.set_cons_zero, List.set_cons_succ]
  repeat (refine ordL_take (v := ?_) (by rfl) (by rfl) ?_ ?_; rotate_left; (focus (intro w hSw; (try dsimp only at hSw); go_simp; (try with_reducible rfl))); simp only [Act.put, List.setIfInBounds_toArray, List.set_cons_zero, List.set_cons_succ])
  refine ordL_lone (by rfl) (by rfl) (fun KK hK => ?_)
  try go_simp
  refine hK.out _ _ (.inl (by trivial)) ?_
  clear hK KK
  try simp only [Act.put, List.setIfInBounds_toArray, List.set_cons_zero, List.set_cons_succ]
  refine ordL_done ?_
  have K3' : Blk ((((w1.setCell ⟨q + 1 + 1, 2, none⟩ (.int .i64 n)).setCell ⟨q + 1 + 1, 4, none⟩ (.slice ao m cc)).setCell ⟨q + 1 + 1, 5, none⟩ (.int .i64 (-1))).setCell ⟨q + 1 + 1, 6, none⟩ (.int .i64 (-1))).drew (q + 1 + 1) 29 #[.int .i64 2, .string ⟨#[]⟩, .int .i64 n, .int .i64 0, .slice ao m cc, .int .i64 (-1), .int .i64 (-1)] := by
    have := ((((K3.set_ 2 (.int .i64 n)).set_ 4 (.slice ao m cc)).set_ 5 (.int .i64 (-1))).set_ 6 (.int .i64 (-1))).drew
    simpa using this
  have K2' := ((((K2.far (p := ⟨q + 1 + 1, 2, none⟩) (by show q + 1 ≠ q + 1 + 1; omega) (.int .i64 n)).far (p := ⟨q + 1 + 1, 4, none⟩) (by show q + 1 ≠ q + 1 + 1; omega) (.slice ao m cc)).far (p := ⟨q + 1 + 1, 5, none⟩) (by show q + 1 ≠ q + 1 + 1; omega) (.int .i64 (-1))).far (p := ⟨q + 1 + 1, 6, none⟩) (by show q + 1 ≠ q + 1 + 1; omega) (.int .i64 (-1))).drew
  have hlo : w.heap.size ≤ q + 1 := by have := HQ.out; omega
  have hlo2 : w.heap.size ≤ q + 1 + 1 := by have := HQ.out; omega
  have b2 : Below w.heap.size w ((((w1.setCell ⟨q + 1 + 1, 2, none⟩ (.int .i64 n)).setCell ⟨q + 1 + 1, 4, none⟩ (.slice ao m cc)).setCell ⟨q + 1 + 1, 5, none⟩ (.int .i64 (-1))).setCell ⟨q + 1 + 1, 6, none⟩ (.int .i64 (-1))).drew := ((((B1.out.setCell (p := ⟨q + 1 + 1, 2, none⟩) hlo2 _).setCell (p := ⟨q + 1 + 1, 4, none⟩) hlo2 _).setCell (p := ⟨q + 1 + 1, 5, none⟩) hlo2 _).setCell (p := ⟨q + 1 + 1, 6, none⟩) hlo2 _).drew
  obtain ⟨w2, hw2⟩ : ∃ w2, w2 = ((((w1.setCell ⟨q + 1 + 1, 2, none⟩ (.int .i64 n)).setCell ⟨q + 1 + 1, 4, none⟩ (.slice ao m cc)).setCell ⟨q + 1 + 1, 5, none⟩ (.int .i64 (-1))).setCell ⟨q + 1 + 1, 6, none⟩ (.int .i64 (-1))).drew := ⟨_, rfl⟩
  rw [← hw2] at K3' K2' b2
  rw [← hw2]
  have HLO := Lib.hid hlo
  have B2 := Lib.hid b2
  clear hw2 d1 d2 d3 hr X0 X1 X2 X3 HB1 HB2 HB3 MK hlo hlo2 b2
  have d2 := K2'.at7
  have d3 := K3'.at7
  have hr := Below.refl w2.heap.size w2
  go_wp2_with fail
  (try simp only [Exit.inBlock, Exit.then])
  refine bodyPost_ret (v := .agg #[.int .i64 2, .string ⟨#[]⟩, .int .i64 n, .int .i64 0, .slice ao m cc, .int .i64 (-1), .int .i64 (-1)]) ?_ rfl ⟨rfl, below_set7 B2.out HLO.out _ _ _ _ _ _ _⟩
  rw [results_cell_one rfl]
  go_simp
end Go.Proofs.YtbhgmccaecmpjaaGreat

namespace Go.Proofs.YtbhgmccaecmpjaaGreat
set_option linter.unusedVariables false
set_option linter.unusedSimpArgs false
open Go.RowKit

theorem eqArm0 (w : World) : Calls Tryz.prog 186 #[.slice none 0 0, .slice none 0 0] w fun e w' => e = .returned (.bool true) ∧ Below w.heap.size w w' := by
  go_enter Tryz.func186, Tryz.ntmps186
  go_wp2_with fail
  refine wp_loop_rounds 1 ?_
  rw [rounds_succ]
  go_wp2_with fail
  go_ret
  exact ⟨rfl, Below.refl _ _⟩
set_option maxRecDepth 100000 in
set_option maxHeartbeats 4000000 in
theorem eqArm1 (w : World) (g c : Nat) (p : ByteArray) (k : Nat) (hc : ∀ w', Below w.heap.size w w' → w'.cell? ⟨g, 0, none⟩ = some (.string p) ∧ w'.cell? ⟨g, 1, none⟩ = some (.int .i64 k)) : Calls Tryz.prog 186 #[.slice (some ⟨g, 0, none⟩) 1 c, .slice (some ⟨g, 0, none⟩) 1 c] w fun e w' => e = .returned (.bool true) ∧ Below w.heap.size w w' := by
  have hr := Below.refl w.heap.size w
  go_enter Tryz.func186, Tryz.ntmps186
  go_wp2_with fail
  refine wp_loop_rounds 2 ?_
  rw [rounds_succ]
  go_upto_region 6 with fail
  refine wp_region_later w.heap.size (by kernel_rfl) (by kernel_rfl) ?_
  have hu : ∀ u : Later w.heap.size w, Below w.heap.size w u.world := Later.below
  repeat (go_big_quiet_step ((fail)))
  refine wpQuiet_nil ?_
  intro w2 b2
  go_wp2_with fail
  rw [rounds_succ]
  go_wp2_with fail
  go_ret
  exact ⟨rfl, b2⟩
set_option maxRecDepth 100000 in
set_option maxHeartbeats 4000000 in
theorem pgSame (kd n e : Int) (s : ByteArray) (ao : Option Addr) (m cc : Nat) (w : World) (hE : ∀ w', Below w.heap.size w w' → Calls Tryz.prog 186 #[.slice ao m cc, .slice ao m cc] w' fun e w'' => e = .returned (.bool true) ∧ Below w'.heap.size w' w'') :
    Calls Tryz.prog 170 #[.agg #[.int .i64 kd, .string s, .int .i64 n, .int .i64 0, .slice ao m cc, .int .i64 e, .int .i64 e], .agg #[.int .i64 kd, .string s, .int .i64 n, .int .i64 0, .slice ao m cc, .int .i64 e, .int .i64 e]] w fun r w' => r = .returned (.bool true) ∧ Below w.heap.size w w' := by
  obtain ⟨q, hq⟩ : ∃ q, w.heap.size = q := ⟨_, rfl⟩
  obtain ⟨w1, hw1⟩ : ∃ w1, w1 = (w.alloc (.cells #[.int .i64 kd, .string s, .int .i64 n, .int .i64 0, .slice ao m cc, .int .i64 e, .int .i64 e] 29)).alloc (.cells #[.int .i64 kd, .string s, .int .i64 n, .int .i64 0, .slice ao m cc, .int .i64 e, .int .i64 e] 29) := ⟨_, rfl⟩
  have b1 : Below w.heap.size w w1 := by rw [hw1]; exact ((Below.refl _ _).alloc (Nat.le_refl _) _).alloc (by simp) _
  have K1 : Blk w1 q 29 #[.int .i64 kd, .string s, .int .i64 n, .int .i64 0, .slice ao m cc, .int .i64 e, .int .i64 e] := by rw [hw1, ← hq]; exact (Blk.new _ _ _).alloc _
  have K2 : Blk w1 (q + 1) 29 #[.int .i64 kd, .string s, .int .i64 n, .int .i64 0, .slice ao m cc, .int .i64 e, .int .i64 e] := by
    rw [hw1, ← hq]
    have := Blk.new (w.alloc (.cells #[.int .i64 kd, .string s, .int .i64 n, .int .i64 0, .slice ao m cc, .int .i64 e, .int .i64 e] 29)) 29 #[.int .i64 kd, .string s, .int .i64 n, .int .i64 0, .slice ao m cc, .int .i64 e, .int .i64 e]
    simpa using this
  have HE := Lib.hid (hE w1 b1)
  have HW1 := Lib.hid hw1
  have HQ := Lib.hid hq
  have B1 := Lib.hid b1
  clear hw1 hq b1 hE
  go_enter Tryz.func170, Tryz.ntmps170
  go_upto_region 1 with fail
  rw [← HW1.out, HQ.out]
  have d1 := K1.at7
  have d2 := K2.at7
  have hr := Below.refl w1.heap.size w1
  go_wp2_with fail
  refine HE.out.mono ?_; rintro r w2 ⟨rfl, b2⟩
  go_wp2_with fail
  go_ret
  exact ⟨rfl, B1.out.up b2⟩
set_option maxRecDepth 100000 in
set_option maxHeartbeats 4000000 in
theorem pgArmed (nm : ByteArray) (dl : Int) (jm g c : Nat) (p : ByteArray) (hp : PlainS p) (h0 : 0 < p.size) (w : World) : Calls Tryz.prog 187 #[.agg #[.string nm, .int .i64 dl, .int .i64 jm, .slice (some ⟨g, 0, none⟩) 2 c], .agg #[.string p, .int .i64 2]] w fun e w' => e = .returned (.int .i64 0) ∧ Below w.heap.size w w' := by
  have FC : Hid (∀ w, Calls Tryz.prog 196 #[.string p] w fun e w' => e = .returned (.tuple #[.int .i64 0, .int .i64 0]) ∧ Below w.heap.size w w') := Lib.hid fun w => arCheck p hp h0 w
  have FS : Hid (∀ w, Calls Tryz.prog 173 #[.agg #[.string nm, .int .i64 dl, .int .i64 jm, .slice (some ⟨g, 0, none⟩) 2 c], .int .i64 2] w fun e w' => e = .returned (.bool true) ∧ Below w.heap.size w w') := Lib.hid fun w => pgComes nm dl jm g c w
  have hn : ¬ ((64 : Int) < (p.size : Int)) := by have := hp.2; omega
  obtain ⟨q, hq⟩ : ∃ q, w.heap.size = q := ⟨_, rfl⟩
  obtain ⟨w1, hw1⟩ : ∃ w1, w1 = (w.alloc (.cells #[.string nm, .int .i64 dl, .int .i64 jm, .slice (some ⟨g, 0, none⟩) 2 c] 32)).alloc (.cells #[.string p, .int .i64 2] 65) := ⟨_, rfl⟩
  have b1 : Below w.heap.size w w1 := by rw [hw1]; exact ((Below.refl _ _).alloc (Nat.le_refl _) _).alloc (by simp) _
  have K1 : Blk w1 q 32 #[.string nm, .int .i64 dl, .int .i64 jm, .slice (some ⟨g, 0, none⟩) 2 c] := by rw [hw1, ← hq]; exact (Blk.new _ _ _).alloc _
  have K2 : Blk w1 (q + 1) 65 #[.string p, .int .i64 2] := by
    rw [hw1, ← hq]
    have := Blk.new (w.alloc (.cells #[.string nm, .int .i64 dl, .int .i64 jm, .slice (some ⟨g, 0, none⟩) 2 c] 32)) 65 #[.string p, .int .i64 2]
    simpa using this
  have HW1 := Lib.hid hw1
  have HQ := Lib.hid hq
  have B1 := Lib.hid b1
  clear hw1 hq b1 hp h0
  go_enter Tryz.func187, Tryz.ntmps187
  go_upto_region 1 with fail
  rw [← HW1.out, HQ.out]
  have d1 := K1.at4
  have d2 := K2.at2
  have hr := Below.refl w1.heap.size w1
  go_wp2_with fail
  refine (FC.out _).mono ?_; rintro r w2 ⟨rfl, b2⟩
  have d1 := (K1.later b2).at4
  have d2 := (K2.later b2).at2
  have hr := Below.refl w2.heap.size w2
  go_wp2_with fail
  refine (FS.out _).mono ?_; rintro r w3 ⟨rfl, b3⟩
  go_wp2_with fail
  go_ret
  exact ⟨rfl, (B1.out.up b2).up b3⟩
end Go.Proofs.YtbhgmccaecmpjaaGreat
