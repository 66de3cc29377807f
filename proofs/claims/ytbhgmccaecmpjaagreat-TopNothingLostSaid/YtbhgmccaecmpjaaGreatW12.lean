/-
  Contracts of package heap, fourth part: what is due; a new heap.
  Conditions: the blocks are known.
-/
import Derived.Test.YtbhgmccaecmpjaaGreatW10
import Derived.Test.YtbhgmccaecmpjaaGreatW11
namespace Go.Proofs.YtbhgmccaecmpjaaGreat
set_option linter.unusedVariables false
set_option linter.unusedSimpArgs false
open Go.RowKit Go.ChangeMaps

set_option maxRecDepth 100000 in
set_option maxHeartbeats 4000000 in
theorem heDueNo {w : World} {x wh n : Nat} {lv : Value} {at_ : Option Int} {now : Int} (h : Hea w x wh lv n at_) (hd : ∀ t, at_ = some t → dueB t now = false) : Calls Tryz.prog 35 #[.pointer (some ⟨x, 0, none⟩), .int .i64 now] w fun e w' => e = .returned (.slice none 0 0) ∧ Below w.heap.size w w' := by
  cases at_ with
  | none =>
    have FM := Lib.hid (heMinNo h)
    have hr := Below.refl w.heap.size w
    clear h
    go_enter Tryz.func35, Tryz.ntmps35
    go_wp2_with fail
    refine FM.out.mono ?_; rintro e w1 ⟨rfl, b1⟩
    go_wp2_with fail
    refine wp_loop_rounds 1 ?_
    rw [rounds_succ]
    go_wp2_with fail
    go_ret
    exact ⟨rfl, b1.alloc (by have := b1.size; omega) _⟩
  | some t =>
    have FM := Lib.hid (heMin h)
    have hr := Below.refl w.heap.size w
    have FD := Lib.hid (fun w => tDueV (hd t rfl) w)
    clear h hd
    go_enter Tryz.func35, Tryz.ntmps35
    go_wp2_with fail
    refine FM.out.mono ?_; rintro e w1 ⟨rfl, b1⟩
    go_wp2_with fail
    refine wp_loop_rounds 1 ?_
    rw [rounds_succ]
    go_wp2_with (go_at_call 57; refine (FD.out _).mono ?_; rintro e w2 ⟨rfl, rfl⟩)
    go_ret
    exact ⟨rfl, b1.alloc (by have := b1.size; omega) _⟩
set_option maxRecDepth 100000 in
set_option maxHeartbeats 4000000 in
theorem heDue {w : World} {x wh n : Nat} {lv : Value} {t now : Int} (h : Hea w x wh lv n (some t)) (hd : dueB t now = true) : Calls Tryz.prog 35 #[.pointer (some ⟨x, 0, none⟩), .int .i64 now] w fun e w' => ∃ g cap lv', e = .returned (.slice (some ⟨g, 0, none⟩) 1 cap) ∧ w.heap.size ≤ g ∧ (∀ w'', Below w'.heap.size w' w'' → w''.cell? ⟨g, 0, none⟩ = some (.int .i64 t) ∧ w''.cell? ⟨g, 1, none⟩ = some (.int .i64 0)) ∧ Hea w' x wh lv' n none ∧ lv'.ownBlock = lv.ownBlock ∧ Foot (heF x wh lv) w w' := by
  have FM := Lib.hid (heMin h)
  have FD := Lib.hid (fun w => tDueV hd w)
  have HH := Lib.hid h
  have hr := Below.refl w.heap.size w
  clear h hd
  go_enter Tryz.func35, Tryz.ntmps35
  go_wp2_with fail
  refine FM.out.mono ?_; rintro e w1 ⟨rfl, b1⟩
  obtain ⟨b, hb⟩ : ∃ b, w1.heap.size = b := ⟨_, rfl⟩
  obtain ⟨w2, hw2⟩ : ∃ w2, w2 = w1.alloc (.cells #[.int .i64 t, .int .i64 0] 100) := ⟨_, rfl⟩
  have b2 : Below w1.heap.size w1 w2 := by rw [hw2]; exact Below.alloc (Below.refl _ _) (Nat.le_refl _) _
  have K2 : Blk w2 b 100 #[.int .i64 t, .int .i64 0] := by rw [hw2, ← hb]; exact Blk.new _ _ _
  have H2 := HH.out.later (b1.up b2)
  have B2 := Lib.hid (b1.up b2)
  have HW2 := Lib.hid hw2
  have HBB := Lib.hid hb
  have KK2 := Lib.hid K2
  have db := K2.at2
  have lb : w.heap.size ≤ b := by have := b1.size; omega
  have lb2 := H2.lt
  have FC := Lib.hid (heCutI H2)
  have L0 := Lib.hid HH.out.lt
  have LB := Lib.hid lb
  clear hw2 hb b2 b1 K2 hr H2
  have hr := Below.refl w2.heap.size w2
  go_wp2_with fail
  rw [← HW2.out, HBB.out]
  refine wp_loop_rounds 2 ?_
  rw [rounds_succ]
  go_wp2_with (go_at_call 57; refine (FD.out _).mono ?_; rintro e w2 ⟨rfl, rfl⟩)
  refine FC.out.mono ?_; rintro e w3 ⟨rfl, lv', h3, e3, f3⟩
  have nb : ¬ heF x wh lv b := fun hb => by have := L0.out b hb; omega
  have K3 := KK2.out.foot f3 nb
  have F3 : Foot (heF x wh lv) w w3 := (Foot.later B2.out).trans f3
  clear db hr lb2 FC
  have db := K3.at2
  have hr := Below.refl w3.heap.size w3
  have LB3 := h3.lt
  have hb3 := K3.lt
  have ls3 := F3.size
  go_wp2_with (at_builtin; refine wpList_append_elem info_entry rfl (by decide) (by decide) Tryz.underlying101 _ rfl _ _ rfl w.heap.size (.slice none 0 0) 0 [] rfl ⟨rfl, .inl ⟨rfl, rfl⟩⟩ w3.heap.size rfl [.int .i64 t, .int .i64 0] rfl ?ta1 ?ta2 (by omega) ?ta3 ?ta4)
  case ta1 => intro j u hj; exact ((Blk.new w3 100 #[.int .i64 t, .int .i64 0]).cell j).trans (by simpa using hj)
  case ta2 => intro u hu; simp at hu; rcases hu with rfl | rfl <;> rfl
  case ta3 => simp; omega
  case ta4 =>
  intro ao cap w5 o5 g5
  have b35 : Below w3.heap.size w3 w5 := (Below.alloc (Below.refl _ _) (Nat.le_refl _) _).trans ⟨g5.os, g5.tape, g5.output, g5.size, fun k hk => g5.block k (by simp; omega) (fun e => by cases e)⟩
  obtain ⟨g, rfl, hg5, -⟩ := orow_cell o5 0 (by simp)
  have H5 := h3.later b35
  have K5 := K3.later b35
  have F5 := F3.up b35
  obtain ⟨c, hc⟩ : ∃ c, w5.heap.size = c := ⟨_, rfl⟩
  obtain ⟨w6, hw6⟩ : ∃ w6, w6 = w5.alloc (.cells #[.int .i64 t, .int .i64 0] 100) := ⟨_, rfl⟩
  have b6 : Below w5.heap.size w5 w6 := by rw [hw6]; exact Below.alloc (Below.refl _ _) (Nat.le_refl _) _
  have K6 : Blk w6 c 100 #[.int .i64 t, .int .i64 0] := by rw [hw6, ← hc]; exact Blk.new _ _ _
  have H6 := H5.later b6
  have o6 := orow_later o5 b6
  have F6 := F5.up b6
  have HW6 := Lib.hid hw6
  have HCC := Lib.hid hc
  have lc : w.heap.size ≤ c := by have := b35.size; omega
  have FM2 := Lib.hid (heMinNo H6)
  clear db hr b35 g5 hw6 hc b6 H5 o5 F5 h3 K3 F3 f3
  have db := K5.at2
  have hr := Below.refl w5.heap.size w5
  go_upto_region 4 with fail
  rw [← HW6.out, HCC.out]
  clear db hr
  have dc := K6.at2
  have hr := Below.refl w6.heap.size w6
  go_wp2_with fail
  refine FM2.out.mono ?_; rintro e w7 ⟨rfl, b7⟩
  have K7 := K6.later b7
  have H7 := H6.later b7
  have o7 := orow_later o6 b7
  have F7 := F6.up b7
  have nc : ¬ heF x wh lv' c := fun hb => by
    have hb2 : heF x wh lv c := by unfold heF at hb ⊢; rw [← e3]; exact hb
    have := L0.out c hb2
    omega
  clear dc hr b7 K6 H6 o6 F6
  have dc := K7.at2
  have hr := Below.refl w7.heap.size w7
  obtain ⟨w8, hw8⟩ : ∃ w8, w8 = (w7.setCell ⟨c, 0, none⟩ (.int .i64 0)).setCell ⟨c, 1, none⟩ (.int .i64 0) := ⟨_, rfl⟩
  have f8 : Foot (fun i => i = c) w7 w8 := by rw [hw8]; exact foot_set2 (F := fun i => i = c) (Foot.refl _ _) rfl _ _
  have H8 := H7.foot f8 (fun i hi e => nc (e ▸ hi))
  have F8 : Foot (heF x wh lv) w w8 := F7.trans' f8 (fun i hi e => by omega)
  obtain ⟨g', hgg, hgl, hgc⟩ := orow_cell o7 0 (by simp)
  cases hgg
  obtain ⟨g', hgg, hgl1, hgc1⟩ := orow_cell o7 1 (by simp)
  cases hgg
  have hgB : w.heap.size ≤ g := (World.ownsRow.lt o7 g rfl).1
  have hgne : g ≠ c := fun e => by have := HCC.out; omega
  have hG : ∀ w'', Below w8.heap.size w8 w'' → w''.cell? ⟨g, 0, none⟩ = some (.int .i64 t) ∧ w''.cell? ⟨g, 1, none⟩ = some (.int .i64 0) := fun w'' hw => by
    have e : w''.heap[g]? = w7.heap[g]? := (hw.block g (by have := f8.size; omega)).trans (f8.block g hgl hgne)
    exact ⟨(World.cell?_of_block (a := ⟨g, 0, none⟩) e).trans (hgc w7 (Below.refl _ _)), (World.cell?_of_block (a := ⟨g, 1, none⟩) e).trans (hgc1 w7 (Below.refl _ _))⟩
  have HW8 := Lib.hid hw8
  have HG := Lib.hid hG
  have HE := Lib.hid e3
  have HGB := Lib.hid hgB
  clear hw8 hG hgc hgc1 hgne hgl hgl1 f8 H7 o7 F7
  go_upto_region 3 with fail
  rw [rounds_succ, ← HW8.out]
  clear dc hr
  have hr := Below.refl w8.heap.size w8
  go_wp2_with fail
  go_ret
  exact ⟨g, cap, lv', rfl, HGB.out, HG.out, H8, HE.out, F8⟩
set_option maxRecDepth 100000 in
set_option maxHeartbeats 4000000 in
theorem heNew (w : World) (n : Nat) (hn : 1 ≤ n ∧ n ≤ 1024) : Calls Tryz.prog 23 #[.int .i64 n] w fun e w' => ∃ x wh, e = .returned (.pointer (some ⟨x, 0, none⟩)) ∧ Hea w' x wh (.slice none 0 0) n none ∧ (∀ i, heF x wh (.slice none 0 0) i → w.heap.size ≤ i) ∧ Below w.heap.size w w' := by
  have h1 : (1 : Int) ≤ (n : Int) := by omega
  have h2 : (n : Int) ≤ 1024 := by omega
  obtain ⟨i0, hi0, hz0, hz1, hz2⟩ := info_parts info_intT
  go_enter Tryz.func23, Tryz.ntmps23
  go_wp2_with (at_make; refine wpList_make_full _ rfl _ _ 33 rfl w.heap.size 3 i0 (.int .i64 0) 1 Tryz.underlying33 hi0 hz0 hz1 .i64 .i64 _ _ n rfl rfl ?m1 ?m2 ?m3 ?m4 (Nat.le_refl _) ?m5)
  case m1 => first | rfl | omega
  case m2 => first | rfl | omega
  case m3 => rw [hz2]; omega
  case m4 => unfold maxLen; omega
  case m5 =>
  intro w1 r1 g1
  obtain ⟨-, cs, K1, hcs⟩ := row_full r1
  have b1 : Below w.heap.size w w1 := ⟨g1.os, g1.tape, g1.output, g1.size, fun k hk => g1.block k hk (fun e => by cases e)⟩
  clear r1 g1 hi0 hz0 hz1 hz2
  have hw := K1.lt
  obtain ⟨a, ha⟩ : ∃ a, w.heap.size = a := ⟨_, rfl⟩
  rw [ha] at K1 hw
  try rw [ha]
  have AK : ArrK w1 a 3 n 0 (.int .i64 (-1)) := ⟨⟨cs, K1, hcs, fun h => absurd h (by omega)⟩, by omega, by omega⟩
  clear K1 hcs
  have HA := Lib.hid ha
  have B1 := Lib.hid b1
  clear ha b1
  have b3 := Below.alloc (Below.refl w1.heap.size w1) (Nat.le_refl _) (.cells #[.slice none 0 0, .slice (some ⟨a, 0, none⟩) n n] 119)
  have K3 := Blk.new w1 119 #[.slice none 0 0, .slice (some ⟨a, 0, none⟩) n n]
  have AK3 := AK.later b3
  have d3 := K3.at2
  have hr3 := Below.refl (w1.alloc (.cells #[.slice none 0 0, .slice (some ⟨a, 0, none⟩) n n] 119)).heap.size (w1.alloc (.cells #[.slice none 0 0, .slice (some ⟨a, 0, none⟩) n n] 119))
  have KK := Lib.hid K3
  have AA := Lib.hid AK3
  have BB := Lib.hid b3
  clear K3 AK3 b3 AK
  go_wp2_with fail
  go_loopw [16] (fun iv wr => ∃ k : Nat, iv = .int .i64 k ∧ k ≤ n ∧ Hid (ArrK wr a 3 n k (.int .i64 (-1))) ∧ Hid (Blk wr w1.heap.size 119 #[.slice none 0 0, .slice (some ⟨a, 0, none⟩) n n]) ∧ Hid (Below w.heap.size w wr)) (fun iv _ => n - (intOf iv).toNat)
  case atStart => exact ⟨0, rfl, by omega, AA, KK, Lib.hid (B1.out.up BB.out (by rw [HA.out]; omega))⟩
  case round =>
    clear d3 hr3 AA KK BB
    obtain ⟨k, rfl, hk, hA, hK, hB⟩ := hrel
    have dK := hK.out.at2
    have hr := Below.refl wr.heap.size wr
    by_cases hlt : k < n
    · have e1 : (k : Int) < (n : Int) := by omega
      obtain ⟨v, dA⟩ := hA.out.at_ hlt
      go_wp2_with fail
      go_round
      case rel =>
        refine ⟨k + 1, by go_num, by omega, Lib.hid hA.out.set, Lib.hid ?_, Lib.hid ?_⟩
        · exact hK.out.far (p := ⟨a, k, none⟩) (by simp only; omega) _
        · exact Below.setCell hB.out (p := ⟨a, k, none⟩) (by simp only; rw [HA.out]; omega) _
      case measure => simp [intOf]; omega
    · have e1 : ¬ (k : Int) < (n : Int) := by omega
      go_wp2_with fail
      go_ret
      have hkn : k = n := by omega
      have hA1 := hA.out.full (by omega)
      refine ⟨w1.heap.size, rfl, a, ⟨hK.out, hA1, .inl ⟨rfl, rfl⟩, by omega, (fun e => by cases e), (fun e => by cases e)⟩, ?_, hB.out⟩
      rintro i (rfl | rfl | hi)
      · rw [HA.out]; omega
      · rw [HA.out]; omega
      · cases hi
end Go.Proofs.YtbhgmccaecmpjaaGreat

namespace Go.Proofs.YtbhgmccaecmpjaaGreat
set_option linter.unusedVariables false
set_option linter.unusedSimpArgs false
open Go.RowKit

/-- The cells of an item of one byte. -/
def itC (b : UInt8) : List Value := [.bool false, .int .u64 (oneS b.toNat).w0, .int .u64 (oneS b.toNat).w1, .int .u64 (oneS b.toNat).w2, .int .u64 (oneS b.toNat).w3]
def itsC (l : List UInt8) : List Value := l.flatMap itC
theorem itsC_len (l : List UInt8) : (itsC l).length = l.length * 5 := by
  induction l with
  | nil => rfl
  | cons b r ih => show (itC b ++ itsC r).length = _; rw [List.length_append, ih]; simp [itC]; omega
theorem itsC_snoc (l : List UInt8) (b : UInt8) : itsC (l ++ [b]) = itsC l ++ itC b := by unfold itsC; simp
theorem itsC_at (l : List UInt8) (k : Nat) (h : k < l.length) (j : Nat) (hj : j < 5) : (itsC l)[k * 5 + j]? = (itC l[k])[j]? := by
  induction l generalizing k with
  | nil => simp at h
  | cons b r ih =>
    show (itC b ++ itsC r)[k * 5 + j]? = _
    cases k with
    | zero => rw [List.getElem?_append_left (by simp [itC]; omega)]; simp
    | succ k =>
      rw [List.getElem?_append_right (by simp [itC]; omega)]
      have := ih k (by simpa using h)
      have hk : k < r.length := by simpa using h
      show _ = (itC r[k])[j]?
      rw [← this]
      congr 1
      simp [itC]; omega
/-- A row of plain items. -/
abbrev Its (w : World) (B : Nat) (ao : Option Addr) (cap : Nat) (l : List UInt8) : Prop := ORow 278 5 B w (.slice ao l.length cap) l.length (itsC l)
theorem its_cell {w : World} {B : Nat} {ao : Option Addr} {cap : Nat} {l : List UInt8} (h : Its w B ao cap l) (k : Nat) (hk : k < l.length) : ∃ g, ao = some ⟨g, 0, none⟩ ∧ g < w.heap.size ∧ ∀ w', Below w.heap.size w w' → w'.cell? ⟨g, k * 5, none⟩ = some (.bool false) ∧ w'.cell? ⟨g, k * 5 + 1, none⟩ = some (.int .u64 (oneS l[k].toNat).w0) ∧ w'.cell? ⟨g, k * 5 + 2, none⟩ = some (.int .u64 (oneS l[k].toNat).w1) ∧ w'.cell? ⟨g, k * 5 + 3, none⟩ = some (.int .u64 (oneS l[k].toNat).w2) ∧ w'.cell? ⟨g, k * 5 + 4, none⟩ = some (.int .u64 (oneS l[k].toNat).w3) := by
  have hl := itsC_len l
  obtain ⟨g, rfl, hg, hc⟩ := orow_cell h (k * 5) (by rw [hl]; omega)
  refine ⟨g, rfl, hg, fun w' hb => ?_⟩
  have at_ : ∀ j, j < 5 → w'.cell? ⟨g, k * 5 + j, none⟩ = (itC l[k])[j]? := fun j hj => by
    obtain ⟨g', hgg, _, hc'⟩ := orow_cell h (k * 5 + j) (by rw [hl]; omega)
    cases hgg
    rw [hc' w' hb, itsC_at l k hk j hj]
  exact ⟨at_ 0 (by decide), at_ 1 (by decide), at_ 2 (by decide), at_ 3 (by decide), at_ 4 (by decide)⟩

theorem good1 (a0 a1 a2 a3 : Int) (w : World) : Calls Tryz.prog 218 #[.agg #[.bool false, .int .u64 a0, .int .u64 a1, .int .u64 a2, .int .u64 a3]] w fun e w' => e = .returned (.bool false) ∧ Below w.heap.size w w' := by
  go_enter Tryz.func218, Tryz.ntmps218
  go_wp2_with fail
  go_ret
  exact ⟨rfl, (Below.refl _ _).alloc (Nat.le_refl _) _⟩
theorem empty1 (a0 a1 a2 a3 : Int) (w : World) : Calls Tryz.prog 211 #[.agg #[.bool false, .int .u64 a0, .int .u64 a1, .int .u64 a2, .int .u64 a3]] w fun e w' => e = .returned (.bool true) ∧ Below w.heap.size w w' := by
  go_enter Tryz.func211, Tryz.ntmps211
  go_wp2_with fail
  go_ret
  exact ⟨rfl, (Below.refl _ _).alloc (Nat.le_refl _) _⟩
set_option maxRecDepth 100000 in
set_option maxHeartbeats 4000000 in
theorem idxGood (w : World) (B : Nat) (ao : Option Addr) (cap : Nat) (l : List UInt8) (h : Its w B ao cap l) (hl : l.length ≤ 1000) : Calls Tryz.prog 219 #[.slice ao l.length cap, .func (Fn.func 218) #[] #[]] w fun e w' => e = .returned (.int .i64 (-1)) ∧ Below w.heap.size w w' := by
  have HH := Lib.hid h
  go_enter Tryz.func219, Tryz.ntmps219
  go_wp2_with fail
  go_loopw [8] (fun iv wr => ∃ k : Nat, iv = .int .i64 k ∧ k ≤ l.length ∧ Below w.heap.size w wr) (fun iv _ => l.length - (intOf iv).toNat)
  case atStart => exact ⟨0, rfl, by omega, Below.refl _ _⟩
  case round =>
    clear h
    obtain ⟨k, rfl, hk, hB⟩ := hrel
    by_cases hlt : k < l.length
    · have e1 : (k : Int) < (l.length : Int) := by omega
      obtain ⟨g, rfl, hg, hc⟩ := its_cell (orow_later HH.out hB) k hlt
      have hcc := hc wr (Below.refl _ _)
      have FG : Hid (∀ w, Calls Tryz.prog 218 #[.agg #[.bool false, .int .u64 (oneS l[k].toNat).w0, .int .u64 (oneS l[k].toNat).w1, .int .u64 (oneS l[k].toNat).w2, .int .u64 (oneS l[k].toNat).w3]] w fun e w' => e = .returned (.bool false) ∧ Below w.heap.size w w') := Lib.hid fun w => good1 _ _ _ _ w
      clear hc
      generalize (oneS l[k].toNat) = S at *
      go_wp2_with fail
      refine (FG.out _).mono ?_; rintro e w1 ⟨rfl, b1⟩
      go_wp2_with fail
      go_round
      case rel => exact ⟨k + 1, by go_num, by omega, hB.up b1⟩
      case measure => simp [intOf]; omega
    · have e1 : ¬ (k : Int) < (l.length : Int) := by omega
      go_wp2_with fail
      go_ret
      exact ⟨rfl, hB⟩
set_option maxRecDepth 100000 in
set_option maxHeartbeats 4000000 in
theorem idxEmpty (w : World) (B : Nat) (ao : Option Addr) (cap : Nat) (l : List UInt8) (h : Its w B ao cap l) (hl : 0 < l.length) : Calls Tryz.prog 219 #[.slice ao l.length cap, .func (Fn.func 211) #[] #[]] w fun e w' => e = .returned (.int .i64 0) ∧ Below w.heap.size w w' := by
  obtain ⟨g, rfl, hg, hc⟩ := its_cell h 0 hl
  have hcc := hc w (Below.refl _ _)
  have e1 : (0 : Int) < (l.length : Int) := by omega
  have FG : Hid (∀ w, Calls Tryz.prog 211 #[.agg #[.bool false, .int .u64 (oneS l[0].toNat).w0, .int .u64 (oneS l[0].toNat).w1, .int .u64 (oneS l[0].toNat).w2, .int .u64 (oneS l[0].toNat).w3]] w fun e w' => e = .returned (.bool true) ∧ Below w.heap.size w w') := Lib.hid fun w => empty1 _ _ _ _ w
  clear hc h
  generalize (oneS l[0].toNat) = S at *
  simp only [Nat.zero_mul, Nat.zero_add] at hcc
  go_enter Tryz.func219, Tryz.ntmps219
  go_wp2_with fail
  refine wp_loop_rounds 1 ?_
  rw [rounds_succ]
  go_wp2_with fail
  refine (FG.out _).mono ?_; rintro e w1 ⟨rfl, b1⟩
  go_wp2_with fail
  go_ret
  exact ⟨rfl, b1⟩
theorem cfGood (w : World) (B : Nat) (ao : Option Addr) (cap : Nat) (l : List UInt8) (h : Its w B ao cap l) (hl : l.length ≤ 1000) : Calls Tryz.prog 210 #[.slice ao l.length cap, .func (Fn.func 218) #[] #[]] w fun e w' => e = .returned (.bool false) ∧ Below w.heap.size w w' := by
  have FI := Lib.hid (idxGood w B ao cap l h hl)
  go_enter Tryz.func210, Tryz.ntmps210
  go_wp2_with fail
  refine FI.out.mono ?_; rintro e w1 ⟨rfl, b1⟩
  go_wp2_with fail
  go_ret
  exact ⟨rfl, b1⟩
theorem cfEmpty (w : World) (B : Nat) (ao : Option Addr) (cap : Nat) (l : List UInt8) (h : Its w B ao cap l) (hl : 0 < l.length) : Calls Tryz.prog 210 #[.slice ao l.length cap, .func (Fn.func 211) #[] #[]] w fun e w' => e = .returned (.bool true) ∧ Below w.heap.size w w' := by
  have FI := Lib.hid (idxEmpty w B ao cap l h hl)
  go_enter Tryz.func210, Tryz.ntmps210
  go_wp2_with fail
  refine FI.out.mono ?_; rintro e w1 ⟨rfl, b1⟩
  go_wp2_with fail
  go_ret
  exact ⟨rfl, b1⟩
theorem laEmpty (w : World) (B : Nat) (ao : Option Addr) (cap : Nat) (l : List UInt8) (h : Its w B ao cap l) (hl : 0 < l.length) : Calls Tryz.prog 199 #[.slice ao l.length cap] w fun e w' => e = .returned (.bool false) ∧ Below w.heap.size w w' := by
  have FI := Lib.hid (cfEmpty w B ao cap l h hl)
  go_enter Tryz.func199, Tryz.ntmps199
  go_wp2_with fail
  refine FI.out.mono ?_; rintro e w1 ⟨rfl, b1⟩
  go_wp2_with fail
  go_ret
  exact ⟨rfl, b1⟩
set_option maxRecDepth 100000 in
set_option maxHeartbeats 4000000 in
theorem glGoodI (w : World) (B : Nat) (ao : Option Addr) (cap : Nat) (l : List UInt8) (h : Its w B ao cap l) (hl : l.length ≤ 60) : Calls Tryz.prog 209 #[.slice ao l.length cap] w fun e w' => e = .returned (.bool true) ∧ Below w.heap.size w w' := by
  have FI : Hid (∀ w', Below w.heap.size w w' → Calls Tryz.prog 210 #[.slice ao l.length cap, .func (Fn.func 218) #[] #[]] w' fun e w'' => e = .returned (.bool false) ∧ Below w'.heap.size w' w'') := Lib.hid fun w' hb => cfGood w' B ao cap l (orow_later h hb) (by omega)
  have e1 : (l.length : Int) ≤ 60 := by omega
  clear h
  go_enter Tryz.func209, Tryz.ntmps209
  go_wp2_with (go_at_call 210; refine (FI.out _ (Below.refl _ _)).mono ?_; rintro e w1 ⟨rfl, b1⟩)
  go_ret
  exact ⟨rfl, b1⟩
theorem glGood (w : World) (B : Nat) (ao : Option Addr) (cap : Nat) (l : List UInt8) (h : Its w B ao cap l) (hl : l.length ≤ 60) : Calls Tryz.prog 198 #[.slice ao l.length cap] w fun e w' => e = .returned (.bool true) ∧ Below w.heap.size w w' := by
  have FI := Lib.hid (glGoodI w B ao cap l h hl)
  go_enter Tryz.func198, Tryz.ntmps198
  go_wp2_with fail
  refine FI.out.mono ?_; rintro e w1 ⟨rfl, b1⟩
  go_wp2_with fail
  go_ret
  exact ⟨rfl, b1⟩
theorem info_item : (Tryz.prog.info? 278).map (fun i => (i.zero, i.size, i.bytes)) = some (some (.agg #[.bool false, .int .u64 0, .int .u64 0, .int .u64 0, .int .u64 0]), 5, 40) := by kernel_rfl
/-- A text of plain bytes. -/
def PlainS (s : ByteArray) : Prop := (∀ i (h : i < s.size), plainC s[i].toNat) ∧ s.size ≤ 60
theorem ext_head (s : ByteArray) (k : Nat) (h : k < s.size) : ∃ h0 : 0 < (s.extract k s.size).size, (s.extract k s.size)[0] = s[k] := by
  have h0 : 0 < (s.extract k s.size).size := by simp; omega
  refine ⟨h0, ?_⟩
  simp [ByteArray.getElem_extract]
set_option maxRecDepth 100000 in
set_option maxHeartbeats 4000000 in
theorem glParse (s : ByteArray) (hs : PlainS s) (w : World) : Calls Tryz.prog 188 #[.string s] w fun e w' => ∃ ao cap, e = .returned (.tuple #[.slice ao s.data.toList.length cap, .int .i64 0, .int .i64 0]) ∧ Its w' w.heap.size ao cap s.data.toList ∧ Below w.heap.size w w' := by
  have hsz : s.data.toList.length = s.size := rfl
  have hs60 := hs.2
  have HP := Lib.hid hs
  clear hs
  go_enter Tryz.func188, Tryz.ntmps188
  go_wp2_with fail
  go_loopw [5, 6] (fun v iv wr => ∃ (k : Nat) (ao : Option Addr) (cap : Nat), iv = .int .i64 k ∧ v = .slice ao k cap ∧ k ≤ s.size ∧ Hid (ORow 278 5 w.heap.size wr (.slice ao k cap) k (itsC (s.data.toList.take k))) ∧ Below w.heap.size w wr) (fun _ iv _ => s.size - (intOf iv).toNat)
  case atStart => exact ⟨0, none, 0, rfl, rfl, by omega, Lib.hid ⟨rfl, .inl ⟨rfl, rfl⟩⟩, Below.refl _ _⟩
  case round =>
    obtain ⟨k, ao, cap, rfl, rfl, hk, hO, hB⟩ := hrel
    by_cases hlt : k < s.size
    · have e1 : (k : Int) < (s.size : Int) := by omega
      have e1' : (k : Int) ≤ (s.size : Int) := by omega
      have e2 : ((k : Int) == 60) = false := ne_b (by omega)
      obtain ⟨h0, hh⟩ := ext_head s k hlt
      have FI := Lib.hid (fun w => glItem (s.extract k s.size) s[k].toNat (HP.out.1 k hlt) h0 (by rw [hh]) w)
      have hsn : s.data.toList.take (k + 1) = s.data.toList.take k ++ [s[k]] := by rw [List.take_succ_eq_append_getElem (by omega)]; rfl
      have hsnc : itsC (s.data.toList.take (k + 1)) = itsC (s.data.toList.take k) ++ itC s[k] := by rw [hsn, itsC_snoc]
      have HSNC := Lib.hid hsnc
      have hitc : itC s[k] = [.bool false, .int .u64 (oneS s[k].toNat).w0, .int .u64 (oneS s[k].toNat).w1, .int .u64 (oneS s[k].toNat).w2, .int .u64 (oneS s[k].toNat).w3] := rfl
      have HIT := Lib.hid hitc
      clear h0 hh hsn hitc hsnc
      have hr := Below.refl wr.heap.size wr
      go_wp2_with fail
      refine (FI.out _).mono ?_; rintro e w1 ⟨rfl, b1⟩
      generalize (oneS s[k].toNat) = S at *
      generalize itC s[k] = IC at *
      obtain ⟨q, hq⟩ : ∃ q, w1.heap.size = q := ⟨_, rfl⟩
      obtain ⟨w2, hw2⟩ : ∃ w2, w2 = w1.alloc (.cells #[.bool false, .int .u64 S.w0, .int .u64 S.w1, .int .u64 S.w2, .int .u64 S.w3] 278) := ⟨_, rfl⟩
      have b2 : Below w1.heap.size w1 w2 := by rw [hw2]; exact Below.alloc (Below.refl _ _) (Nat.le_refl _) _
      have K2 : Blk w2 q 278 #[.bool false, .int .u64 S.w0, .int .u64 S.w1, .int .u64 S.w2, .int .u64 S.w3] := by rw [hw2, ← hq]; exact Blk.new _ _ _
      have hO2 := orow_later hO.out (b1.up b2)
      have HW2 := Lib.hid hw2
      have HQ := Lib.hid hq
      have BB := Lib.hid (hB.up (b1.up b2))
      clear hw2 hq hO b2 b1 hB hr
      go_upto_region 7 with fail
      rw [← HW2.out, HQ.out]
      have dq := K2.at5
      have hr := Below.refl w2.heap.size w2
      have hsz2 := BB.out.size
      have s3 : IntKind.i64.wrap ((k : Int) + 1) = ((k + 1 : Nat) : Int) := by rw [IntWalk.i64_in _ (by omega)]; omega
      go_wp2_with (at_builtin; refine wpList_append_elem info_item rfl (by decide) (by decide) Tryz.underlying264 _ rfl _ _ rfl w.heap.size (.slice ao k cap) k (itsC (s.data.toList.take k)) rfl (World.ownsRow.alloc hO2 _) w2.heap.size rfl [.bool false, .int .u64 S.w0, .int .u64 S.w1, .int .u64 S.w2, .int .u64 S.w3] rfl ?ta1 ?ta2 (by omega) ?ta3 ?ta4)
      case ta1 => intro j u hj; exact ((Blk.new w2 278 #[.bool false, .int .u64 S.w0, .int .u64 S.w1, .int .u64 S.w2, .int .u64 S.w3]).cell j).trans (by simpa using hj)
      case ta2 => intro u hu; simp at hu; rcases hu with rfl | rfl | rfl | rfl | rfl <;> rfl
      case ta3 => simp; omega
      case ta4 =>
        intro ao' cap' w5 o5 g5
        rw [← HIT.out, ← HSNC.out] at o5
        have B5 := orow_below (World.ownsRow.alloc hO2 (.cells #[.bool false, .int .u64 S.w0, .int .u64 S.w1, .int .u64 S.w2, .int .u64 S.w3] 278)) (BB.out.alloc (by omega) _) g5 (Nat.le_refl _)
        have HO5 := Lib.hid o5
        clear o5 g5 hO2 dq hr
        have hr := Below.refl w5.heap.size w5
        go_wp2_with fail
        go_round
        case rel => exact ⟨k + 1, ao', cap', by go_num, rfl, by omega, HO5, B5⟩
        case measure => simp [intOf]; omega
    · have e1 : ¬ (k : Int) < (s.size : Int) := by omega
      obtain rfl : k = s.size := by omega
      have hO' := hO.out
      rw [List.take_of_length_le (by omega)] at hO'
      go_wp2_with fail
      go_ret3
      exact ⟨ao, cap, rfl, hO', hB⟩
end Go.Proofs.YtbhgmccaecmpjaaGreat
