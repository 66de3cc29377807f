/-
  The walk of WorldLong: how long a text may be, and how many rounds there may be.
  Conditions: the tables and the error of range stand in their variables.
-/
import Derived.Test.YtmnkekepccdlcaaGreatDoorWorldL
import Derived.OwnWalk
import Derived.ArgAppend
import Derived.Lib.SlBytesConst
namespace Go.Proofs.YtmnkekepccdlcaaGreatDoor
set_option linter.unusedVariables false
set_option linter.unusedSimpArgs false
open Go.RowKit

theorem infoByteW : (Tryz.prog.info? 5).map (fun i => (i.zero, i.size, i.bytes)) = some (some (.int .u8 0), 1, 1) := by kernel_rfl
def zR : Array Value := #[.int .i64 0, .slice none 0 0, .slice none 0 0, .slice none 0 0, .int .i64 0, .bool false]
theorem made_rounds (n : Nat) : (madeCells zR (n * 6)).toList = rsC (List.replicate n (hd0, rd0)) := by
  apply List.ext_getElem?
  intro i
  by_cases h : i < n * 6
  · have h6 : i % 6 < 6 := Nat.mod_lt _ (by decide)
    have := rows_at 6 (fun q : Hd × Rd => rC q.1 q.2) (fun _ => rfl) (List.replicate n (hd0, rd0)) (i / 6) (by rw [List.length_replicate]; omega) (i % 6) h6
    rw [show i / 6 * 6 + i % 6 = i by omega, List.getElem_replicate] at this
    refine Eq.trans ?_ this.symm
    have e : (madeCells zR (n * 6)).toList[i]? = some (zR[i % 6]!) := by
      unfold madeCells
      simp [h, zR]
    rw [e]
    generalize i % 6 = j at h6
    match j, h6 with
    | 0, _ => rfl
    | 1, _ => rfl
    | 2, _ => rfl
    | 3, _ => rfl
    | 4, _ => rfl
    | 5, _ => rfl
  · have h1 : (madeCells zR (n * 6)).toList.length = n * 6 := by rw [Array.length_toList]; exact size_madeCells _ _
    have h2 := rsC_len (List.replicate n (hd0, rd0))
    rw [List.length_replicate] at h2
    rw [List.getElem?_eq_none (by omega), List.getElem?_eq_none (by omega)]
theorem rd0_in (B n : Nat) (w : World) : ∀ q ∈ List.replicate n (hd0, rd0), RIn B w q.1 q.2 := fun q hq => by
  rw [List.eq_of_mem_replicate hq]
  exact rin0 _ _
theorem made_rnds {B n : Nat} {w : World} {g : Nat} (h : w.ownsRow B 59 6 (.slice (some ⟨g, 0, none⟩) n n) n (madeCells zR (n * 6)).toList) : Rnds B w (some ⟨g, 0, none⟩) n (List.replicate n (hd0, rd0)) := by
  refine ⟨?_, rd0_in B n w⟩
  rw [made_rounds] at h
  show ORow _ _ _ _ (.slice _ (List.replicate n (hd0, rd0)).length n) (List.replicate n (hd0, rd0)).length _
  rw [List.length_replicate]
  exact h
theorem rep_map (n : Nat) : (List.replicate n (hd0, rd0)).map Prod.snd = List.replicate n rd0 := by simp
theorem rep_good (n : Nat) : ((List.replicate n (hd0, rd0)).all fun q => goodR q.2) = true := by
  rw [List.all_eq_true]
  intro q hq
  rw [List.eq_of_mem_replicate hq]
  exact good_0

/-- The bytes so far: the constant's own row, or a row of the call's own. -/
def BX (B : Nat) (w : World) (v : Value) (k : Nat) : Prop :=
  (k = 0 ∧ ∃ q, v = .slice (some ⟨q, 0, none⟩) 1 1 ∧ w.cell? ⟨q, 0, none⟩ = some (.int .u8 35)) ∨ OB 5 B w v (35 :: List.replicate k 120)
set_option maxHeartbeats 8000000 in
set_option maxRecDepth 100000 in
theorem worldLong (n : Int) (w : World) (hn : 0 ≤ n ∧ n ≤ 255) (he : EnvW w) : Calls Tryz.prog 9 #[.int .u8 n] w fun e w' => e = .returned (.bool true) ∧ Below w.heap.size w w' := by
  have HE := Lib.hid he
  have FLV : Hid (∀ w', EnvW w' → Calls Tryz.prog 30 #[] w' fun e w'' => e = .returned (.bool true) ∧ Below w'.heap.size w' w'') := Lib.hid fun w' h => wLives w' h
  obtain ⟨w0, hw0⟩ : ∃ w0, w.alloc (.cells #[.int .u8 35] 5 (1, 2)) = w0 := ⟨_, rfl⟩
  have hob0 : BX w.heap.size w0 (.slice (some ⟨w.heap.size, 0, none⟩) 1 1) 0 := .inl ⟨rfl, _, rfl, by
    rw [← hw0]
    exact World.cell?_alloc_mark w #[.int .u8 35] 5 (1, 2) 0⟩
  have hb0 : Below w.heap.size w w0 := by rw [← hw0]; exact (Below.refl _ _).alloc (Nat.le_refl _) _
  have HW0 := Lib.hid hw0
  clear hw0
  clear he
  have kc := fun (w : World) (C : Array Value) (n c : Nat) => Lib.run_convert_bytes_const (P := Tryz.prog) w 64 5 C n c Tryz.underlying64 Tryz.underlying5
  go_enter Tryz.func9, Tryz.ntmps9
  go_wp2_with fail
  rw [HW0.out]
  go_loopw [4] (fun v wr => ∃ (ao : Option Addr) (cap k : Nat), v = .slice ao (k + 1) cap ∧ (k : Int) + 1 ≤ 39992 + n % 16 ∧ Hid (BX w.heap.size wr v k) ∧ Below w.heap.size w wr) (fun v _ => match v with | .slice _ m _ => 50000 - m | _ => 0)
  case atStart => exact ⟨_, 1, 0, rfl, by omega, Lib.hid hob0, hb0⟩
  case round =>
    obtain ⟨ao, cap, k, rfl, hk, hob, hb⟩ := hrel
    clear hob0 hb0
    by_cases hlt : (k : Int) + 1 < 39992 + n % 16
    · have hm : k ≤ 1000000 := by omega
      rcases hob.out with ⟨rfl, q, eq, hq⟩ | hob
      · simp only [Nat.zero_add] at eq
        obtain ⟨rfl, rfl⟩ : ao = some ⟨q, 0, none⟩ ∧ cap = 1 := by simpa using eq
        obtain ⟨i0, hi0, hz0, hz1, hz2⟩ := info_parts infoByteW
        have hql := block_lt hq
        have hq2 := (World.cell?_alloc_past (w := wr) (.cells #[.int .u8 120] 5) q 0 hql).trans hq
        go_wp2_with (at_builtin; refine wpList_append_arg _ rfl _ _ 64 rfl 5 i0 (.int .u8 0) 1 1 Tryz.underlying64 hi0 hz0 hz1 hz2 rfl (by decide) q 0 1 1 [.int .u8 35] rfl rfl ?c1 ⟨wr.heap.size, 0, none⟩ 1 1 [.int .u8 120] rfl rfl ?c2 ?c3 ?c4 ?c5 ?c6 ?c7 ?c8)
        case c1 =>
          intro j u hj
          match j, hj with
          | 0, hj => simp at hj; subst hj; first | exact hq2 | exact hq
          | j + 1, hj => simp at hj
        case c3 => rfl
        case c5 => decide
        case c8 =>
          intro v' w' h1 g1
          obtain ⟨ao', cap', rfl, -⟩ := orow_form h1
          have hb' : Below w.heap.size w w' := (hb.alloc hb.size _).grown g1 (by have := hb.size; simp; omega) (fun k hk => by cases hk)
          have h3 : Hid (BX w.heap.size w' (.slice ao' (1 + 1) cap') 1) := Lib.hid (.inr (orow_lower h1 (by have := hb.size; simp; omega)))
          clear h1 g1 hob hb kc hq hq2
          go_wp2_with fail
          go_roundw
          case rel => exact ⟨ao', cap', 1, rfl, by omega, h3, hb'⟩
          case measure => simp only; omega
      · have hob := Lib.hid hob
        clear kc
        go_wp2_with (at_builtin; refine wpList_append_byte infoByteW Tryz.underlying64 _ rfl _ _ rfl w.heap.size _ _ rfl (hob.out.alloc _) wr.heap.size rfl 120 ?b1 ?b2 ?b3 ?b4)
        case b1 => exact cell_new1 _ _ _
        case b2 => simp; omega
        case b3 => have := hb.size; simp; omega
        case b4 =>
          intro ao' cap' w' h1 h2
          have hb' : Below w.heap.size w w' := OB.below (hob.out.alloc _) (hb.alloc hb.size _) h2 (Nat.le_refl _)
          have h3 : Hid (BX w.heap.size w' (.slice ao' (k + 1 + 1) cap') (k + 1)) := by
            have h4 := h1.cast (l' := 35 :: List.replicate (k + 1) 120) (by rw [List.replicate_succ'])
            try simp only [List.length_cons, List.length_replicate] at h4
            exact Lib.hid (.inr h4)
          try simp only [List.length_cons, List.length_replicate]
          clear h1 h2 hob hb
          go_wp2_with fail
          go_roundw
          case rel => exact ⟨ao', cap', k + 1, rfl, by omega, h3, hb'⟩
          case measure => simp only; omega
    · have hke : (k : Int) = 39991 + n % 16 := by omega
      have hk0 : k ≠ 0 := by omega
      have hob : OB 5 w.heap.size wr (.slice ao (k + 1) cap) (35 :: List.replicate k 120) := by
        rcases hob.out with ⟨h, _⟩ | h
        · exact absurd h hk0
        · exact h
      clear kc hk0
      have hcv := hob.text (P := Tryz.prog) Tryz.underlying64 Tryz.underlying5 Tryz.underlying9
      have hR := worldRead (bt (35 :: List.replicate k 120)) wr (by show (35 :: List.replicate k (120 : UInt8)).length ≤ _; rw [List.length_cons, List.length_replicate]; omega) (HE.out.later hb)
      have eR : readW (bt (35 :: List.replicate k 120)).data.toList = if 40000 < k + 1 then .error (0, 0, 4) else .ok [] := read_hash k
      rw [eR] at hR
      clear eR hob
      obtain ⟨T, hT⟩ : ∃ T, bt (35 :: List.replicate k 120) = T := ⟨_, rfl⟩
      rw [hT] at hR
      have HT : Hid (({ data := (35 :: List.replicate k 120).toArray } : ByteArray) = T) := Lib.hid hT
      clear hT
      have hc0 := hcv wr (Below.refl _ _)
      have hl1 : wr.heap.size ≤ wr.heap.size := Nat.le_refl _
      obtain ⟨N, hNi⟩ : ∃ N : Nat, 9992 + n % 16 = (N : Int) := ⟨(9992 + n % 16).toNat, by omega⟩
      have HR := Lib.hid hR
      clear hR
      have infoR : (Tryz.prog.info? 59).map (fun i => (i.zero, i.size, i.bytes)) = some (some (.agg zR), 6, 96) := info_round
      obtain ⟨i0, hi0, hz0, hz1, hz2⟩ := info_parts infoR
      by_cases hbig : 40000 < k + 1
      · rw [if_pos hbig] at HR
        have hj9 : ¬ n % 16 < 9 := by omega
        have hjb : decide (n % 16 < 9) = false := decide_eq_false hj9
        have hNb : 10000 < N := by omega
        go_wp2_with fail
        rw [HT.out]
        refine HR.out.mono ?_; rintro e w1 ⟨-, rfl, b1⟩
        have HB1 := Lib.hid (hb.up b1)
        clear hc0 hb b1
        go_upto_region 5 with fail
        obtain ⟨w2, hw2⟩ : ∃ w2, w1.alloc (.cells #[.int .i64 0, .int .i64 0] 49) = w2 := ⟨_, rfl⟩
        have K2 : Blk w2 w1.heap.size 49 #[.int .i64 0, .int .i64 0] := by rw [← hw2]; exact Blk.new _ _ _
        have b2 : Below w1.heap.size w1 w2 := by rw [← hw2]; exact (Below.refl _ _).alloc (Nat.le_refl _) _
        rw [hw2]
        have HB2 := Lib.hid (HB1.out.up b2)
        clear hw2 b2
        generalize w1.heap.size = q1 at *
        go_wp2_with (at_make; refine wpList_make_full _ rfl _ _ 47 rfl w2.heap.size 59 i0 (.agg zR) 6 Tryz.underlying47 hi0 hz0 hz1 .i64 .i64 _ _ N rfl rfl ?m1 ?m2 ?m3 ?m4 (Nat.le_refl _) ?m5)
        case m1 => first | rfl | exact hNi
        case m2 => first | rfl | exact hNi
        case m3 => rw [hz2]; omega
        case m4 => unfold maxLen; omega
        intro w3 r1 g3
        have b3 : Below w2.heap.size w2 w3 := ⟨g3.os, g3.tape, g3.output, g3.size, fun k hk => g3.block k hk (fun e => by cases e)⟩
        have HB3 := Lib.hid (HB2.out.up b3)
        have K3 := K2.later b3
        clear g3 b3
        have d3 := K3.at2
        have hr := Below.refl w3.heap.size w3
        go_wp2_with fail
        refine (xWriteLong N _ _ w3 hNb (by omega)).mono ?_; rintro e w4 ⟨rfl, b4⟩
        have K4 := K3.later b4
        have HB4 := Lib.hid (HB3.out.up b4)
        clear d3 hr b4
        have d4 := K4.at2
        have hr := Below.refl w4.heap.size w4
        have FH := Lib.hid (fun w' (h : Below w4.heap.size w4 w') => FLV.out w' (HE.out.later (HB4.out.up h)))
        go_wp2_with fail
        refine (FH.out _ (Below.refl _ _)).mono ?_; rintro e w5 ⟨rfl, b5⟩
        go_wp2_with fail
        go_ret
        exact ⟨rfl, HB4.out.up b5⟩
      · rw [if_neg hbig] at HR
        have hj9 : n % 16 < 9 := by omega
        have hjb : decide (n % 16 < 9) = true := decide_eq_true hj9
        have hNb : N ≤ 10000 := by omega
        go_wp2_with fail
        rw [HT.out]
        refine HR.out.mono ?_; rintro e w1 ⟨-, ao1, cap1, l1, hl1, rfl, -, b1⟩
        obtain rfl : l1 = [] := by simpa using hl1
        have HB1 := Lib.hid (hb.up b1)
        clear hc0 hb b1 hl1
        go_upto_region 5 with fail
        obtain ⟨w2, hw2⟩ : ∃ w2, w1.alloc (.cells #[.int .i64 0, .int .i64 0] 49) = w2 := ⟨_, rfl⟩
        have K2 : Blk w2 w1.heap.size 49 #[.int .i64 0, .int .i64 0] := by rw [← hw2]; exact Blk.new _ _ _
        have b2 : Below w1.heap.size w1 w2 := by rw [← hw2]; exact (Below.refl _ _).alloc (Nat.le_refl _) _
        rw [hw2]
        have HB2 := Lib.hid (HB1.out.up b2)
        clear hw2 b2
        generalize w1.heap.size = q1 at *
        go_wp2_with (at_make; refine wpList_make_full _ rfl _ _ 47 rfl w2.heap.size 59 i0 (.agg zR) 6 Tryz.underlying47 hi0 hz0 hz1 .i64 .i64 _ _ N rfl rfl ?n1 ?n2 ?n3 ?n4 (Nat.le_refl _) ?n5)
        case n1 => first | rfl | exact hNi
        case n2 => first | rfl | exact hNi
        case n3 => rw [hz2]; omega
        case n4 => unfold maxLen; omega
        intro w3 r1 g3
        have b3 : Below w2.heap.size w2 w3 := ⟨g3.os, g3.tape, g3.output, g3.size, fun k hk => g3.block k hk (fun e => by cases e)⟩
        have HB3 := Lib.hid (HB2.out.up b3)
        have K3 := K2.later b3
        clear g3 b3
        have d3 := K3.at2
        have hr := Below.refl w3.heap.size w3
        go_wp2_with fail
        have W4 := xWrite (List.replicate N (hd0, rd0)) (some ⟨w2.heap.size, 0, none⟩) N w3 (made_rnds r1).rsat (by
          rw [rep_map]
          refine ⟨by rw [List.length_replicate]; omega, fun r hr => ?_⟩
          rw [List.eq_of_mem_replicate hr]
          exact ⟨by decide, by decide, by decide⟩) (HE.out.later HB3.out) (by rw [List.length_replicate]; exact hNb) (fun k _ => by
            rw [List.take_replicate, rep_map, write_0]
            have := Nat.min_le_right k N
            omega)
        rw [rep_good, if_pos rfl, if_pos rfl, rep_map, List.length_replicate] at W4
        have hsz : (⟨(writeR (List.replicate N rd0)).toArray⟩ : ByteArray).size = 7 * N := write_0 N
        generalize (⟨(writeR (List.replicate N rd0)).toArray⟩ : ByteArray) = T2 at *
        have s7 : IntKind.i64.wrap (7 * (N : Int)) = 7 * (N : Int) := IntWalk.i64_in _ (by omega)
        have e7 : (T2.size : Int) = 7 * (N : Int) := by omega
        have W4 := Lib.hid W4
        clear r1
        refine W4.out.mono ?_; rintro e w4 ⟨rfl, b4⟩
        have K4 := K3.later b4
        have HB4 := Lib.hid (HB3.out.up b4)
        clear d3 hr b4 W4
        have d4 := K4.at2
        have hr := Below.refl w4.heap.size w4
        have FH := Lib.hid (fun w' (h : Below w4.heap.size w4 w') => FLV.out w' (HE.out.later (HB4.out.up h)))
        go_wp2_with fail
        refine (FH.out _ (Below.refl _ _)).mono ?_; rintro e w5 ⟨rfl, b5⟩
        go_wp2_with fail
        go_ret
        exact ⟨rfl, HB4.out.up b5⟩
end Go.Proofs.YtmnkekepccdlcaaGreatDoor
