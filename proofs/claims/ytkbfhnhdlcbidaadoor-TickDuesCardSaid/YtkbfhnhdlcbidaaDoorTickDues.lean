/-
  What the statement TickDues computes: it returns true; it makes new memory alone.
  Conditions: the numbers are numbers of their Go kinds, the list is a list that memory holds; strconv's error is laid.
-/
import Derived.Test.YtkbfhnhdlcbidaaDoorTickLaws
import Derived.Test.YtkbfhnhdlcbidaaDoorRow
import Derived.Deep.RegionHeld3
namespace Go.Proofs.YtkbfhnhdlcbidaaDoor
open Go.RowKit Go.Sort

abbrev iv64 (n : Int) : Value := .int .i64 n
theorem infoI64 : (Tryd.prog.info? 2).map (fun i => (i.zero, i.size, i.bytes)) = some (some (.int .i64 0), 1, 8) := by kernel_rfl
/-- Numbers that the call itself lists. -/
def OI (B : Nat) (w : World) (ao : Option Addr) (cap : Nat) (l : List Int) : Prop := ORow 2 1 B w (.slice ao l.length cap) l.length (l.map iv64)
theorem oi_later {B : Nat} {w w' : World} {ao : Option Addr} {cap : Nat} {l : List Int} (h : OI B w ao cap l) (hb : Below w.heap.size w w') : OI B w' ao cap l := orow_later h hb
theorem tLeastO {B : Nat} {w : World} {ao : Option Addr} {cap : Nat} {l : List Int} (h : OI B w ao cap l) (hl : l.length ≤ 100) :
    Calls Tryd.prog 42 #[.slice ao l.length cap] w fun e w' => e = .returned (.int .i64 (leastT l)) ∧ w = w' := by
  rcases h.2 with ⟨hv, h0⟩ | ⟨g, cap', cur, hv, -, -, -, -, -, -⟩
  · obtain rfl := List.eq_nil_of_length_eq_zero h0
    cases hv
    rw [leastT_nil]
    go_enter Tryd.func42, Tryd.ntmps42
    go_wp2_with fail
    go_loopw [3, 8] (fun ov iv wr => ov = .int .i64 9223372036854775807 ∧ iv = .int .i64 0 ∧ w = wr) (fun _ _ _ => 0)
    case atStart => exact ⟨rfl, rfl, rfl⟩
    case round =>
      obtain ⟨rfl, rfl, rfl⟩ := hrel
      go_wp2_with fail
      go_ret
      exact ⟨rfl, rfl⟩
  · cases hv
    refine tLeast g 0 _ l w (by omega) (fun k hk => ?_)
    obtain ⟨g', e, _, hc⟩ := orow_cell h k (by simpa using hk)
    cases e
    rw [Nat.zero_add, hc w (Below.refl _ _)]
    simp [hk]
theorem rLeastO {B : Nat} {w : World} {ao : Option Addr} {cap : Nat} {l : List Int} (h : OI B w ao cap l) (hl : l.length ≤ 100) :
    Calls Tryd.prog 43 #[.slice ao l.length cap] w fun e w' => e = .returned (.int .i64 (leastT l)) ∧ w = w' := by
  rcases h.2 with ⟨hv, h0⟩ | ⟨g, cap', cur, hv, -, -, -, -, -, -⟩
  · obtain rfl := List.eq_nil_of_length_eq_zero h0
    cases hv
    rw [leastT_nil]
    go_enter Tryd.func43, Tryd.ntmps43
    go_wp2_with fail
    go_loopw [3, 4] (fun ov iv wr => ov = .int .i64 9223372036854775807 ∧ iv = .int .i64 0 ∧ w = wr) (fun _ _ _ => 0)
    case atStart => exact ⟨rfl, rfl, rfl⟩
    case round =>
      obtain ⟨rfl, rfl, rfl⟩ := hrel
      go_wp2_with fail
      go_ret
      exact ⟨rfl, rfl⟩
  · cases hv
    refine rLeast g 0 _ l w (by omega) (fun k hk => ?_)
    obtain ⟨g', e, _, hc⟩ := orow_cell h k (by simpa using hk)
    cases e
    rw [Nat.zero_add, hc w (Below.refl _ _)]
    simp [hk]
theorem due_stays {a n d : Int} (hn : i64 n) (h : dueB a n = true) : dueB a (addT n d) = true := by
  have h1 := addT_ge n d hn
  have h2 := addT_own n d
  unfold dueB at *
  simp only [decide_eq_true_eq] at *
  exact ⟨h.1, by rw [h2]; omega⟩
theorem due_left {a n : Int} (ha : i64 a) (hn : i64 n) : dueB a n = (leftT a n == 0) := by
  have h1 := own_never ha
  have h2 := ownT_le ha
  have h3 := ownT_le hn
  unfold dueB leftT
  by_cases g : a = nev
  · subst g
    rw [if_pos (show ownT nev = nev from rfl)]
    simp [nev]
  · rw [show (a == 9223372036854775807) = false from ne_b g] at h1
    have g2 : ¬ ownT a = nev := beq_eq_false_iff_ne.1 h1.symm
    rw [if_neg g2]
    by_cases g3 : ownT a ≤ ownT n
    · rw [if_pos g3]; simp [g, g3]
    · rw [if_neg g3, ne_b (by omega)]; simp [g3]

set_option maxHeartbeats 8000000 in
set_option maxRecDepth 100000 in
theorem tickDues (at0 now d : Int) (ao : Option Addr) (cap : Nat) (zs : List Int) (w : World) (h1 : i64 at0) (h2 : i64 now) (h3 : i64 d) (hz : zs.length ≤ maxLen)
    (hcell : ∀ i (h : i < zs.length), ∃ b off, ao = some ⟨b, off, none⟩ ∧ w.cell? ⟨b, off + i, none⟩ = some (.int .i64 zs[i])) (hr : RangeV w) :
    Calls Tryd.prog 10 #[.agg #[.int .i64 at0, .int .i64 now, .int .i64 d, .slice ao zs.length cap]] w fun e w' => e = .returned (.bool true) ∧ Below w.heap.size w w' := by
  have HC := Lib.hid hcell
  have HR := Lib.hid hr
  have f1 := fun w => tDue at0 now w
  have f2 := fun w => rDue at0 now w
  have f3 := fun w => tAdd now d w h2 h3
  have f4 := fun w => tDue at0 (addT now d) w
  have f5 := fun w => tLeft at0 now w h1 h2
  have hstay := due_stays (a := at0) (d := d) h2
  have hleft := due_left h1 h2
  have hzl : zs.length ≤ 9223372036854775807 := Nat.le_trans hz (by decide)
  clear h1 h2 h3 hcell hr
  generalize hw0 : w.alloc (.cells #[.int .i64 at0, .int .i64 now, .int .i64 d, .slice ao zs.length cap] 66) = w0
  have hk : Blk w0 w.heap.size 66 #[.int .i64 at0, .int .i64 now, .int .i64 d, .slice ao zs.length cap] := by rw [← hw0]; exact Blk.new _ _ _
  have hb0 : Below w.heap.size w w0 := by rw [← hw0]; exact (Below.refl _ _).alloc (Nat.le_refl _) _
  have d0 := hk.at4
  have HW0 := Lib.hid hw0
  clear hw0
  go_enter Tryd.func10, Tryd.ntmps10
  go_upto_region 1 with fail
  rw [HW0.out]
  generalize hB : w.heap.size = B at *
  have HB := Lib.hid hB
  have hBs : B ≤ w.heap.size := Nat.le_of_eq hB.symm
  clear hB
  clear d0
  have k0 : w0.cell? ⟨B, 0, none⟩ = some (.int .i64 at0) := hk.cell 0
  have k1 : w0.cell? ⟨B, 1, none⟩ = some (.int .i64 now) := hk.cell 1
  go_region_held3 (fun w' => w'.cell? ⟨B, 0, none⟩ = some (.int .i64 at0) ∧ w'.cell? ⟨B, 1, none⟩ = some (.int .i64 now)) (first | exact ⟨k0, k1⟩ | go_keep | (constructor <;> first | exact k0 | exact k1)) (fail)
  have hs0 : B + 1 ≤ w0.heap.size := hk.lt
  have hob0 := orow_empty 2 1 (B + 1) w0.drew hs0
  have F1 := Lib.hid f1
  have F2 := Lib.hid f2
  have F3 := Lib.hid f3
  have F4 := Lib.hid f4
  have F5 := Lib.hid f5
  have HS := Lib.hid hstay
  have HL := Lib.hid hleft
  have hk1 : Blk (w0.drew.alloc (.cells #[] 2)) B 66 #[.int .i64 at0, .int .i64 now, .int .i64 d, .slice ao zs.length cap] := hk.drew.alloc _
  have hb1 : Below B w (w0.drew.alloc (.cells #[] 2)) := hb0.drew.alloc (Nat.le_of_succ_le hs0) _
  clear f1 f2 f3 f4 f5 hstay hleft k0 k1 HW0
  rename_i hHeld
  go_wp2_with fail
  go_loopw [5, 6] (fun ov iv wr => ∃ (k : Nat) (oo : Option Addr) (oc : Nat) (acc : List Int), iv = .int .i64 k ∧ ov = .slice oo acc.length oc ∧ Hid (acc.length = k) ∧ k ≤ zs.length ∧ k ≤ 12 ∧ Hid (acc = zs.take k) ∧ Hid (OI (B + 1) wr oo oc acc) ∧
    Blk wr B 66 #[.int .i64 at0, .int .i64 now, .int .i64 d, .slice ao zs.length cap] ∧ Below B w wr) (fun _ iv _ => zs.length - (intOf iv).toNat)
  case atStart => exact ⟨0, _, 0, [], rfl, rfl, Lib.hid rfl, Nat.zero_le _, Nat.zero_le _, Lib.hid rfl, Lib.hid hob0, hk1, hb1⟩
  case round =>
    clear hHeld
    obtain ⟨k, oo, oc, acc, rfl, rfl, hal, hkz, hk12, hacc, hoi, hkb, hb⟩ := hrel
    clear hob0 hk1 hb1 hk hb0
    have dx := hkb.at4
    have hr := Below.refl wr.heap.size wr
    have e0 : (0 : Int) ≤ (k : Int) := by omega
    by_cases hlt : k < zs.length ∧ k < 12
    · obtain ⟨b, off, rfl, hz1⟩ := HC.out k hlt.1
      have hw := World.block_lt_of_cell? w _ hz1
      have hz2 := (hb.cell (p := ⟨b, off + k, none⟩) (Nat.lt_of_lt_of_le hw (Nat.le_of_eq HB.out))).trans hz1
      have hlB : b < B := Nat.lt_of_lt_of_le hw (Nat.le_of_eq HB.out)
      have dz : ∀ w', Below wr.heap.size wr w' → w'.cell? ⟨b, off + k, none⟩ = some (.int .i64 zs[k]) := fun w' h => (h.cell (p := ⟨b, off + k, none⟩) (Nat.lt_of_lt_of_le hlB (Nat.le_trans hBs hb.size))).trans hz2
      have e1 : (k : Int) < (zs.length : Int) := by omega
      have e2 : (k : Int) < 12 := by omega
      have hm : acc.length ≤ 1000000 := by have := hal.out; omega
      have hoi2 := hoi.out
      unfold OI at hoi2
      clear hz1 hz2
      go_wp2_with (at_builtin; refine wpList_append_elem infoI64 rfl (by decide) (by decide) Tryd.underlying64 _ rfl _ _ rfl (B + 1) _ _ _ rfl (World.ownsRow.alloc hoi2 _) wr.heap.size rfl [.int .i64 zs[k]] rfl ?ta1 ?ta2 hm ?ta3 ?ta4)
      case ta2 => first | rfl | (intro u hu; simp at hu; subst hu; rfl)
      case ta3 => have := hb.size; simp; omega
      case ta4 =>
        intro oo' oc' w3 g3 g4
        have ho := World.ownsRow.alloc hoi2 (.cells #[Value.int .i64 zs[k]] 2)
        have hal' : (acc ++ [zs[k]]).length = k + 1 := by rw [List.length_append, hal.out]; rfl
        have hb3 : Below B w (wr.alloc (.cells #[Value.int .i64 zs[k]] 2)) := hb.alloc (Nat.le_trans hBs hb.size) _
        have hb4 : Below B w w3 := hb3.grown g4 (Nat.le_trans hBs hb3.size) (fun j hj => Nat.le_of_succ_le (World.ownsRow.lt ho j hj).1)
        have kb4 : Blk w3 B 66 #[.int .i64 at0, .int .i64 now, .int .i64 d, .slice (some ⟨b, off, none⟩) zs.length cap] := (hkb.alloc _).grown g4 (fun e => by have := (World.ownsRow.lt ho B e.symm).1; omega)
        have HA := Lib.hid (show acc ++ [zs[k]] = zs.take (k + 1) by rw [List.take_succ_eq_append_getElem hlt.1]; exact congrArg (· ++ [zs[k]]) hacc.out)
        have HO := Lib.hid (show OI (B + 1) w3 oo' oc' (acc ++ [zs[k]]) by unfold OI; rw [List.length_append, List.map_append]; exact g3)
        clear ho g3 g4 hb3 hb hkb dx dz hoi2
        go_wp2_with fail
        go_roundw
        case rel => exact ⟨k + 1, oo', oc', acc ++ [zs[k]], by go_num, by rw [List.length_append]; rfl, Lib.hid hal', by omega, by omega, HA, HO, kb4, hb4⟩
        case measure => simp [intOf]; omega
    · have HRL := Lib.hid (range_later (w' := wr) HR.out (by rw [HB.out]; exact hb))
      by_cases hkl : k < zs.length
      · have hk12' : ¬ k < 12 := fun h => hlt ⟨hkl, h⟩
        have e1 : (k : Int) < (zs.length : Int) := by omega
        have e2 : ¬ (k : Int) < 12 := by omega
        cases hv : dueB at0 now with
        | true =>
          have g1 := F1.out
          have g2 := F2.out
          have g4 := F4.out
          have hl := HL.out
          rw [hv] at g1 g2 hl
          rw [HS.out hv] at g4
          have G1 := Lib.hid g1
          have G2 := Lib.hid g2
          have G4 := Lib.hid g4
          have HLL := Lib.hid hl.symm
          clear hl
          clear g1 g2 g4 hv
          go_wp2_with fail
          refine (G1.out _).mono ?_; rintro e w1 ⟨rfl, rfl⟩
          go_wp2_with fail
          refine (G2.out _).mono ?_; rintro e w1 ⟨rfl, rfl⟩
          go_wp2_with fail
          refine (F3.out _).mono ?_; rintro e w1 ⟨rfl, rfl⟩
          go_wp2_with fail
          refine (G4.out _).mono ?_; rintro e w1 ⟨rfl, rfl⟩
          go_wp2_with fail
          refine (tLeastO hoi.out (by have := hal.out; omega)).mono ?_; rintro e w1 ⟨rfl, rfl⟩
          go_wp2_with fail
          refine (rLeastO hoi.out (by have := hal.out; omega)).mono ?_; rintro e w1 ⟨rfl, rfl⟩
          go_wp2_with fail
          refine (F5.out _).mono ?_; rintro e w1 ⟨rfl, rfl⟩
          have hl := HLL.out
          go_wp2_with fail
          refine (aLives _ HRL.out).mono ?_; rintro e w1 ⟨rfl, hb1⟩
          have hb2 := Below.up hb hb1 hBs
          go_wp2_with fail
          go_ret
          exact ⟨rfl, by rw [HB.out]; exact hb2⟩
        | false =>
          have g1 := F1.out
          have g2 := F2.out
          have hl := HL.out
          rw [hv] at g1 g2 hl
          have G1 := Lib.hid g1
          have G2 := Lib.hid g2
          have HLL := Lib.hid hl.symm
          clear hl
          clear g1 g2 hv
          go_wp2_with fail
          refine (G1.out _).mono ?_; rintro e w1 ⟨rfl, rfl⟩
          go_wp2_with fail
          refine (G2.out _).mono ?_; rintro e w1 ⟨rfl, rfl⟩
          go_wp2_with fail
          refine (tLeastO hoi.out (by have := hal.out; omega)).mono ?_; rintro e w1 ⟨rfl, rfl⟩
          go_wp2_with fail
          refine (rLeastO hoi.out (by have := hal.out; omega)).mono ?_; rintro e w1 ⟨rfl, rfl⟩
          go_wp2_with fail
          refine (F5.out _).mono ?_; rintro e w1 ⟨rfl, rfl⟩
          have hl := HLL.out
          go_wp2_with fail
          refine (aLives _ HRL.out).mono ?_; rintro e w1 ⟨rfl, hb1⟩
          have hb2 := Below.up hb hb1 hBs
          go_wp2_with fail
          go_ret
          exact ⟨rfl, by rw [HB.out]; exact hb2⟩
      · skip
        have e1 : ¬ (k : Int) < (zs.length : Int) := by omega
        cases hv : dueB at0 now with
        | true =>
          have g1 := F1.out
          have g2 := F2.out
          have g4 := F4.out
          have hl := HL.out
          rw [hv] at g1 g2 hl
          rw [HS.out hv] at g4
          have G1 := Lib.hid g1
          have G2 := Lib.hid g2
          have G4 := Lib.hid g4
          have HLL := Lib.hid hl.symm
          clear hl
          clear g1 g2 g4 hv
          go_wp2_with fail
          refine (G1.out _).mono ?_; rintro e w1 ⟨rfl, rfl⟩
          go_wp2_with fail
          refine (G2.out _).mono ?_; rintro e w1 ⟨rfl, rfl⟩
          go_wp2_with fail
          refine (F3.out _).mono ?_; rintro e w1 ⟨rfl, rfl⟩
          go_wp2_with fail
          refine (G4.out _).mono ?_; rintro e w1 ⟨rfl, rfl⟩
          go_wp2_with fail
          refine (tLeastO hoi.out (by have := hal.out; omega)).mono ?_; rintro e w1 ⟨rfl, rfl⟩
          go_wp2_with fail
          refine (rLeastO hoi.out (by have := hal.out; omega)).mono ?_; rintro e w1 ⟨rfl, rfl⟩
          go_wp2_with fail
          refine (F5.out _).mono ?_; rintro e w1 ⟨rfl, rfl⟩
          have hl := HLL.out
          go_wp2_with fail
          refine (aLives _ HRL.out).mono ?_; rintro e w1 ⟨rfl, hb1⟩
          have hb2 := Below.up hb hb1 hBs
          go_wp2_with fail
          go_ret
          exact ⟨rfl, by rw [HB.out]; exact hb2⟩
        | false =>
          have g1 := F1.out
          have g2 := F2.out
          have hl := HL.out
          rw [hv] at g1 g2 hl
          have G1 := Lib.hid g1
          have G2 := Lib.hid g2
          have HLL := Lib.hid hl.symm
          clear hl
          clear g1 g2 hv
          go_wp2_with fail
          refine (G1.out _).mono ?_; rintro e w1 ⟨rfl, rfl⟩
          go_wp2_with fail
          refine (G2.out _).mono ?_; rintro e w1 ⟨rfl, rfl⟩
          go_wp2_with fail
          refine (tLeastO hoi.out (by have := hal.out; omega)).mono ?_; rintro e w1 ⟨rfl, rfl⟩
          go_wp2_with fail
          refine (rLeastO hoi.out (by have := hal.out; omega)).mono ?_; rintro e w1 ⟨rfl, rfl⟩
          go_wp2_with fail
          refine (F5.out _).mono ?_; rintro e w1 ⟨rfl, rfl⟩
          have hl := HLL.out
          go_wp2_with fail
          refine (aLives _ HRL.out).mono ?_; rintro e w1 ⟨rfl, hb1⟩
          have hb2 := Below.up hb hb1 hBs
          go_wp2_with fail
          go_ret
          exact ⟨rfl, by rw [HB.out]; exact hb2⟩
end Go.Proofs.YtkbfhnhdlcbidaaDoor
