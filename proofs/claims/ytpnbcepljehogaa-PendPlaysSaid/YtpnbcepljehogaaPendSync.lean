/-
  The writer and its reference side by side: three texts that are parts of one.
  Conditions: the writer's block is known whole; its places lie within its text.
-/
import Derived.Test.YtpnbcepljehogaaPendRef
import Derived.Test.YtpnbcepljehogaaPendOrders
namespace Go.Proofs.Ytpnbcepljehogaa
open Go.RowKit

/-- What the reference holds where the writer holds a text, how much was taken, and how much is laid out. -/
abbrev SV (t : ByteArray) (s d : Nat) (m tr : Int) : Value := PV (t.extract 0 s) (t.extract s d) (t.extract d t.size) m tr

theorem ext_none (t : ByteArray) (s : Nat) : t.extract s s = ⟨#[]⟩ := by
  apply ByteArray.ext
  simp
theorem ext_len (t : ByteArray) {s d : Nat} (hd : d ≤ t.size) : (t.extract s d).size = d - s := by simp; omega
theorem ext_some (t : ByteArray) {s d : Nat} (hs : s < d) (hd : d ≤ t.size) : t.extract s d ≠ ⟨#[]⟩ := by
  intro h
  have h1 := ext_len t (s := s) hd
  have h2 : (⟨#[]⟩ : ByteArray).size = 0 := rfl
  rw [h, h2] at h1
  omega
theorem ext_ext (t : ByteArray) (i j k l : Nat) (hl : i + l ≤ j) : (t.extract i j).extract k l = t.extract (i + k) (i + l) := by
  rw [ByteArray.extract_extract]; congr 1; omega

theorem rLoadS (t : ByteArray) (s d : Nat) (m tr : Int) (w : World) (hs : s ≤ d) (hd : d ≤ t.size) (hm : 1 ≤ m ∧ m ≤ 4096) : Calls Try.prog 43 #[SV t s d m tr] w
    fun e w' => e = .returned (.tuple #[SV t s (d + loadT m t s d) m tr, .int .i64 (loadT m t s d)]) ∧ Below w.heap.size w w' := by
  by_cases c : s < d
  · have e : loadT m t s d = 0 := by unfold loadT; rw [if_pos c]
    rw [e, Nat.add_zero]
    exact rLoad0 _ _ _ _ _ _ (ext_some t c hd)
  · obtain rfl : s = d := by omega
    have hn : (loadT m t s s : Int) = min ((t.extract s t.size).size : Int) m := by
      rw [ext_len t (Nat.le_refl _)]; unfold loadT; rw [if_neg c]; omega
    have hle : s + loadT m t s s ≤ t.size := by
      rw [ext_len t (Nat.le_refl _)] at hn; omega
    have h := rLoad1 (t.extract 0 s) (t.extract s t.size) m tr w hm.1 (loadT m t s s) hn
    rw [ext_len t (Nat.le_refl _), ext_ext _ _ _ _ _ hle, ext_ext _ _ _ _ _ (by omega), show s + (t.size - s) = t.size by omega, Nat.add_zero] at h
    show Calls Try.prog 43 #[PV (t.extract 0 s) (t.extract s s) (t.extract s t.size) m tr] w _
    rw [ext_none]
    exact h

theorem rTakeS (t : ByteArray) (s d : Nat) (n m tr : Int) (w : World) (hs : s ≤ d) (hd : d ≤ t.size) (ht : t.size ≤ 30) : Calls Try.prog 44 #[SV t s d m tr, .int .i64 n] w
    fun e w' => e = .returned (.tuple #[SV t (s + takeT n s d) d m (if s = d then tr else tryT n s d tr), .string (t.extract s (s + takeT n s d))]) ∧ Below w.heap.size w w' := by
  by_cases c : s = d
  · subst c
    have e : takeT n s s = 0 := by unfold takeT; omega
    rw [e, if_pos rfl, Nat.add_zero]
    show Calls Try.prog 44 #[PV (t.extract 0 s) (t.extract s s) (t.extract s t.size) m tr, .int .i64 n] w fun e w' => e = .returned (.tuple #[PV (t.extract 0 s) (t.extract s s) (t.extract s t.size) m tr, .string (t.extract s s)]) ∧ Below w.heap.size w w'
    rw [ext_none]
    exact rTake0 _ _ _ _ _ _
  · have hT := takeT_le n hs
    have e1 : (takeT n s d : Int) = min (max n 0) ((t.extract s d).size : Int) := by rw [ext_len t hd]; unfold takeT; omega
    have e2 : (t.extract s d).extract 0 (takeT n s d) = t.extract s (s + takeT n s d) := by rw [ext_ext _ _ _ _ _ hT, Nat.add_zero]
    have e3 : (t.extract s d).extract (takeT n s d) (t.extract s d).size = t.extract (s + takeT n s d) d := by rw [ext_len t hd, ext_ext _ _ _ _ _ (by omega), show s + (d - s) = d by omega]
    rw [if_neg c]
    have h := rTake1 (t.extract 0 s) (t.extract s d) (t.extract d t.size) _ _ n m tr (tryT n s d tr) w (ext_some t (by omega) hd) (takeT n s d) e1 e2 e3 (by rw [ext_len t (by omega), ext_len t (by omega)]; omega)
      ⟨fun hq => by
        unfold tryT; rw [if_pos, IntWalk.i64_left]
        rcases Nat.lt_or_ge (s + takeT n s d) d with h | h
        · exact h
        · exact absurd (by rw [show s + takeT n s d = d by omega, ext_none]) hq, fun hq => by
        unfold tryT; rw [if_neg]
        intro h
        exact ext_some t h hd hq⟩
    rw [ext_add] at h
    exact h

set_option maxHeartbeats 1000000 in
theorem lTold (b : Nat) (m tr : Int) (t : ByteArray) (s d : Nat) (w : World) (h : Pnd w b m t s d tr) (hs : s ≤ d) (hd : d ≤ t.size) (ht : t.size ≤ 30) : Calls Try.prog 47 #[.pointer (some ⟨b, 0, none⟩), SV t s d m tr] w
    fun e w' => e = .returned (.bool true) ∧ Below w.heap.size w w' := by
  have n0 := ext_len t (s := 0) (d := s) (by omega)
  have n1 := ext_len t (s := s) hd
  have n2 := ext_len t (s := d) (Nat.le_refl _)
  have f1 : ∀ u, Pnd u b m t s d tr → Calls Try.prog 48 #[.pointer (some ⟨b, 0, none⟩)] u fun e w' => e = .returned (.string (t.extract s d)) ∧ Below u.heap.size u w' := fun u h => pPeek _ _ _ _ _ _ _ h hs hd
  have f2 : ∀ u, Pnd u b m t s d tr → Calls Try.prog 38 #[.pointer (some ⟨b, 0, none⟩)] u fun e w' => e = .returned (.int .i64 ((t.extract s d).size : Int)) ∧ Below u.heap.size u w' := fun u h => by rw [n1]; exact pLeft _ _ _ _ _ _ _ h hs hd (by omega)
  have f3 : ∀ u, Pnd u b m t s d tr → Calls Try.prog 39 #[.pointer (some ⟨b, 0, none⟩)] u fun e w' => e = .returned (.int .i64 ((t.extract d t.size).size : Int)) ∧ Below u.heap.size u w' := fun u h => by rw [n2]; exact pRest _ _ _ _ _ _ _ h hs hd (by omega)
  have f4 : ∀ u, Pnd u b m t s d tr → Calls Try.prog 37 #[.pointer (some ⟨b, 0, none⟩)] u fun e w' => e = .returned (.int .i64 ((t.extract 0 s).size : Int)) ∧ u = w' := fun u h => by rw [n0, Nat.sub_zero]; exact pSent _ _ _ _ _ _ _ h
  have f5 : ∀ u, Pnd u b m t s d tr → Calls Try.prog 49 #[.pointer (some ⟨b, 0, none⟩)] u fun e w' => e = .returned (.int .i64 tr) ∧ u = w' := fun u h => pTries _ _ _ _ _ _ _ h
  show Calls Try.prog 47 #[.pointer (some ⟨b, 0, none⟩), PV (t.extract 0 s) (t.extract s d) (t.extract d t.size) m tr] w _
  clear n0 n1 n2
  generalize hw0 : w.alloc (.cells #[.string (t.extract 0 s), .string (t.extract s d), .string (t.extract d t.size), .int .i64 m, .int .i64 tr] 53) = w0
  have hp : Pnd w0 b m t s d tr := hw0 ▸ Blk.alloc h _
  have hk : Blk w0 w.heap.size 53 #[.string (t.extract 0 s), .string (t.extract s d), .string (t.extract d t.size), .int .i64 m, .int .i64 tr] := hw0 ▸ Blk.new _ _ _
  have hb0 : Below w.heap.size w w0 := hw0 ▸ (Below.refl _ _).alloc (Nat.le_refl _) _
  generalize t.extract 0 s = A1 at *
  generalize t.extract s d = A2 at *
  generalize t.extract d t.size = A3 at *
  have HW0 := Lib.hid hw0
  clear hw0
  have d0 := hk.at5
  have hr := Below.refl w0.heap.size w0
  go_enter Try.func47, Try.ntmps47
  go_upto_region 1 with fail
  rw [HW0.out]
  have hu : ∀ u : Later w0.heap.size w0, Below w0.heap.size w0 u.world := Later.below
  refine wp_region_later w0.heap.size (by kernel_rfl) (by kernel_rfl) ?_
  repeat (go_big_quiet_step ((first | (go_at_call 48; exact later_below (Nat.le_refl _) (f1 _ (Blk.later hp (hu _)))) | (go_at_call 38; exact later_below (Nat.le_refl _) (f2 _ (Blk.later hp (hu _)))) | (go_at_call 39; exact later_below (Nat.le_refl _) (f3 _ (Blk.later hp (hu _)))) | (go_at_call 37; exact later_same (f4 _ (Blk.later hp (hu _)))) | (go_at_call 49; exact later_same (f5 _ (Blk.later hp (hu _)))))))
  refine wpQuiet_nil ?_
  intro w5 hb5
  go_wp2_with fail
  go_ret
  exact ⟨rfl, hb0.up hb5⟩
end Go.Proofs.Ytpnbcepljehogaa
