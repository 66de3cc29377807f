/-
  What the statements TickAdds, TickRises and TickTexts compute: each returns true; they make new memory alone.
  Conditions: the numbers are numbers of their Go kinds; strconv's error and its table are laid.
-/
import Derived.Test.YtkbfhnhdlcbidaaDoorTickP
namespace Go.Proofs.YtkbfhnhdlcbidaaDoor
open Go.RowKit Go.Sort

theorem range_later {w w' : World} (h : RangeV w) (hb : Below w.heap.size w w') : RangeV w' := by
  obtain ⟨t, p, hc⟩ := h
  exact ⟨t, p, (hb.cell (p := ⟨2, 0, none⟩) (World.block_lt_of_cell? w _ hc)).trans hc⟩
theorem gPow : Tryd.prog.globalNamed "internal/strconv.uint64pow10" = some 3 := by kernel_rfl
theorem pow_later {w w' : World} (h : Pow w) (hb : Below w.heap.size w w') : Pow w' := by
  have e : w.var? Tryd.prog "internal/strconv.uint64pow10" = some (Lib.pow10Tab.map fun z => Value.int .u64 z).toArray := h
  show w'.var? Tryd.prog "internal/strconv.uint64pow10" = _
  rw [← e]
  unfold World.var? at e ⊢
  rw [gPow] at e ⊢
  simp only [Option.bind_some] at e ⊢
  have hlt : 3 < w.heap.size := by
    rcases Nat.lt_or_ge 3 w.heap.size with h | h
    · exact h
    · rw [Array.getElem?_eq_none h] at e; cases e
  rw [hb.block _ hlt]

set_option maxHeartbeats 2000000 in
theorem aLives (w : World) (hr : RangeV w) : Calls Tryd.prog 29 #[] w fun e w' => e = .returned (.bool true) ∧ Below w.heap.size w w' := by
  have f1 := fun w hr => tParse ⟨#[49, 50]⟩ (by decide) w hr
  rw [show parseT (⟨#[49, 50]⟩ : ByteArray).data.toList = (12, 0) from rfl] at f1
  have f2 := fun w => tAdd 9223372036854775806 1 w (by unfold i64; omega) (by unfold i64; omega)
  rw [show addT 9223372036854775806 1 = 9223372036854775807 from rfl] at f2
  have f3 := fun w => tTimes 3 4 w (by unfold i64; omega) (by unfold i64; omega)
  rw [show timesT 3 4 = 12 from rfl] at f3
  have f4 := fun w => tDue 9223372036854775807 9223372036854775807 w
  rw [show dueB 9223372036854775807 9223372036854775807 = false from rfl] at f4
  have f5 := fun w => tDue 4 4 w
  rw [show dueB 4 4 = true from rfl] at f5
  have F1 := Lib.hid f1
  have F2 := Lib.hid f2
  have F3 := Lib.hid f3
  have F4 := Lib.hid f4
  have F5 := Lib.hid f5
  have HR := Lib.hid hr
  clear f1 f2 f3 f4 f5 hr
  go_enter Tryd.func29, Tryd.ntmps29
  go_wp2_with fail
  refine (F1.out _ HR.out).mono ?_; rintro e w1 ⟨rfl, hb⟩
  go_wp2_with fail
  refine (F2.out _).mono ?_; rintro e w2 ⟨rfl, rfl⟩
  go_wp2_with fail
  refine (F3.out _).mono ?_; rintro e w2 ⟨rfl, rfl⟩
  go_wp2_with fail
  refine (F4.out _).mono ?_; rintro e w2 ⟨rfl, rfl⟩
  go_wp2_with fail
  refine (F5.out _).mono ?_; rintro e w2 ⟨rfl, rfl⟩
  go_wp2_with fail
  go_ret
  exact ⟨rfl, hb⟩

set_option maxHeartbeats 4000000 in
theorem tickAdds (t d n : Int) (w : World) (ht : i64 t) (hd : i64 d) (hn : i64 n) (hr : RangeV w) :
    Calls Tryd.prog 9 #[.int .i64 t, .int .i64 d, .int .i64 n] w fun e w' => e = .returned (.bool true) ∧ Below w.heap.size w w' := by
  have F1 := Lib.hid (fun w => tAdd t d w ht hd)
  have F2 := Lib.hid (fun w => rAdd t d w ht hd)
  have F3 := Lib.hid (fun w => tTimes t n w ht hn)
  have F4 := Lib.hid (fun w => rTimes t n w ht hn)
  have F5 := Lib.hid (fun w => tLeft t d w ht hd)
  have F6 := Lib.hid (fun w => rLeft t d w ht hd)
  have HR := Lib.hid hr
  clear ht hd hn hr
  go_enter Tryd.func9, Tryd.ntmps9
  go_wp2_with fail
  refine (tOwn _ _).mono ?_; rintro e w2 ⟨rfl, rfl⟩
  go_wp2_with fail
  refine (rOwn _ _).mono ?_; rintro e w2 ⟨rfl, rfl⟩
  go_wp2_with fail
  refine (F1.out _).mono ?_; rintro e w2 ⟨rfl, rfl⟩
  go_wp2_with fail
  refine (F2.out _).mono ?_; rintro e w2 ⟨rfl, rfl⟩
  go_wp2_with fail
  refine (F3.out _).mono ?_; rintro e w2 ⟨rfl, rfl⟩
  go_wp2_with fail
  refine (F4.out _).mono ?_; rintro e w2 ⟨rfl, rfl⟩
  go_wp2_with fail
  refine (F5.out _).mono ?_; rintro e w2 ⟨rfl, rfl⟩
  go_wp2_with fail
  refine (F6.out _).mono ?_; rintro e w2 ⟨rfl, rfl⟩
  go_wp2_with fail
  refine (aLives _ HR.out).mono ?_; rintro e w2 ⟨rfl, hb⟩
  go_wp2_with fail
  go_ret
  exact ⟨rfl, hb⟩

theorem addT_comm (a b : Int) : addT b a = addT a b := by unfold addT; rw [Int.add_comm]
theorem addT_own (a b : Int) : ownT (addT a b) = addT a b := by
  have h1 : 0 ≤ ownT a := by unfold ownT; omega
  have h2 : 0 ≤ ownT b := by unfold ownT; omega
  unfold addT
  generalize ownT a = x at *
  generalize ownT b = y at *
  unfold ownT nev; omega
theorem addT_assoc (a b c : Int) : addT a (addT b c) = addT (addT a b) c := by
  have h1 : 0 ≤ ownT a := by unfold ownT; omega
  have h2 : 0 ≤ ownT b := by unfold ownT; omega
  have h3 : 0 ≤ ownT c := by unfold ownT; omega
  rw [show addT a (addT b c) = if ownT a + ownT (addT b c) ≥ nev then nev else ownT a + ownT (addT b c) from rfl, show addT (addT a b) c = if ownT (addT a b) + ownT c ≥ nev then nev else ownT (addT a b) + ownT c from rfl, addT_own, addT_own]
  unfold addT nev
  generalize ownT a = x at *
  generalize ownT b = y at *
  generalize ownT c = z at *
  omega
theorem addT_ge (a b : Int) (ha : i64 a) : ownT a ≤ addT a b := by
  have h1 := ownT_le ha
  have h2 : 0 ≤ ownT b := by unfold ownT; omega
  unfold addT nev; omega
theorem addT_mono (a b c : Int) (h : b ≤ c) : addT a b ≤ addT a c := by
  have h1 : ownT b ≤ ownT c := by unfold ownT; omega
  unfold addT nev; omega
set_option maxHeartbeats 4000000 in
theorem tickRises (a b c : Int) (w : World) (ha : i64 a) (hb : i64 b) (hc : i64 c) (hr : RangeV w) :
    Calls Tryd.prog 7 #[.int .i64 a, .int .i64 b, .int .i64 c] w fun e w' => e = .returned (.bool true) ∧ Below w.heap.size w w' := by
  have f2 := fun w => tAdd b a w hb ha
  rw [addT_comm] at f2
  have f5 := fun w => tAdd a (addT b c) w ha (addT_i64 hb hc)
  rw [addT_assoc] at f5
  have F1 := Lib.hid (fun w => tAdd a b w ha hb)
  have F2 := Lib.hid f2
  have F3 := Lib.hid (fun w => tAdd (addT a b) c w (addT_i64 ha hb) hc)
  have F4 := Lib.hid (fun w => tAdd b c w hb hc)
  have F5 := Lib.hid f5
  have F6 := Lib.hid (fun w => tAdd a c w ha hc)
  have HR := Lib.hid hr
  have g1 := addT_ge a b ha
  have g2 := addT_ge b a hb
  rw [addT_comm] at g2
  have g3 := addT_mono a b c
  clear ha hb hc hr f2 f5
  obtain ⟨x, hx⟩ : ∃ x, x = addT a b := ⟨_, rfl⟩
  rw [← hx] at *
  obtain ⟨y, hy⟩ : ∃ y, y = addT a c := ⟨_, rfl⟩
  rw [← hy] at *
  clear hx hy
  go_enter Tryd.func7, Tryd.ntmps7
  go_wp2_with fail
  refine (F1.out _).mono ?_; rintro e w2 ⟨rfl, rfl⟩
  go_wp2_with fail
  refine (F2.out _).mono ?_; rintro e w2 ⟨rfl, rfl⟩
  go_wp2_with fail
  refine (rOwn _ _).mono ?_; rintro e w2 ⟨rfl, rfl⟩
  go_wp2_with fail
  refine (rOwn _ _).mono ?_; rintro e w2 ⟨rfl, rfl⟩
  go_wp2_with fail
  refine (F3.out _).mono ?_; rintro e w2 ⟨rfl, rfl⟩
  go_wp2_with fail
  refine (F4.out _).mono ?_; rintro e w2 ⟨rfl, rfl⟩
  go_wp2_with fail
  refine (F5.out _).mono ?_; rintro e w2 ⟨rfl, rfl⟩
  by_cases hcb : c < b
  · clear g3
    go_wp2_with fail
    refine (aLives _ HR.out).mono ?_; rintro e w2 ⟨rfl, hb⟩
    go_wp2_with fail
    go_ret
    exact ⟨rfl, hb⟩
  · have g4 := g3 (by omega)
    clear g3
    go_wp2_with fail
    refine (F6.out _).mono ?_; rintro e w2 ⟨rfl, rfl⟩
    go_wp2_with fail
    refine (aLives _ HR.out).mono ?_; rintro e w2 ⟨rfl, hb⟩
    go_wp2_with fail
    go_ret
    exact ⟨rfl, hb⟩
end Go.Proofs.YtkbfhnhdlcbidaaDoor
