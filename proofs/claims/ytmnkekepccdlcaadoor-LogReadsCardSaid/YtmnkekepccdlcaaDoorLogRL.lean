/-
  The walk of LogReads.
  Conditions: the errors of strconv and the tables stand in their variables.
-/
import Derived.Test.YtmnkekepccdlcaaDoorLogRd2
import Derived.Test.YtmnkekepccdlcaaDoorLogRA
import Derived.Test.YtmnkekepccdlcaaDoorSame
namespace Go.Proofs.YtmnkekepccdlcaaDoor
set_option linter.unusedVariables false
set_option linter.unusedSimpArgs false
open Go.RowKit

theorem cutL_at (L : List (List UInt8)) (k : Nat) (hk : k < L.length) (hn : ¬ (k + 1 = L.length ∧ L[k] = [])) : k < (cutL L).length ∧ (cutL L).drop k = L[k] :: (cutL L).drop (k + 1) := by
  have key : k < (cutL L).length ∧ ∀ h : k < (cutL L).length, (cutL L)[k] = L[k] := by
    unfold cutL
    split
    · rename_i hl
      have hlt : k < L.dropLast.length := by
        rw [List.length_dropLast]
        rcases Nat.lt_or_ge k (L.length - 1) with h | h
        · exact h
        · exfalso
          apply hn
          have e : k = L.length - 1 := by omega
          refine ⟨by omega, ?_⟩
          rw [List.getLast?_eq_getElem?, ← e, List.getElem?_eq_getElem hk] at hl
          exact Option.some.inj hl
      exact ⟨hlt, fun h => List.getElem_dropLast h⟩
    · exact ⟨hk, fun _ => rfl⟩
  exact ⟨key.1, by rw [List.drop_eq_getElem_cons key.1, key.2 key.1]⟩
theorem cutL_break (L : List (List UInt8)) (k : Nat) (hk : k < L.length) (h1 : k + 1 = L.length) (h2 : L[k] = []) : (cutL L).drop k = [] := by
  have e : L.getLast? = some [] := by rw [List.getLast?_eq_getElem?, show L.length - 1 = k by omega, List.getElem?_eq_getElem hk, h2]
  unfold cutL
  rw [if_pos e]
  exact List.drop_of_length_le (by rw [List.length_dropLast]; omega)
theorem cutL_end (L : List (List UInt8)) : (cutL L).drop L.length = [] := by
  unfold cutL
  split
  · exact List.drop_of_length_le (by rw [List.length_dropLast]; omega)
  · exact List.drop_of_length_le (Nat.le_refl _)

set_option maxHeartbeats 8000000 in
set_option maxRecDepth 100000 in
theorem logReads_ok (s : ByteArray) (w : World) (he : EnvL w) (lst : List Ev) (hRd : rdE 0 (cutL (linesL (cutT s 200).data.toList)) = .ok lst) : Calls Tryd.prog 3 #[.string s] w fun e w' => e = .returned (.bool true) ∧ Below w.heap.size w w' := by
  have hS := cutT_size s 200
  have HE := Lib.hid he
  have F1 := Lib.hid (lRead (cutT s 200) w (by omega) he)
  have F2 := Lib.hid (fun w' => yLines (cutT s 200) w' (by omega))
  obtain ⟨hl1, hl2⟩ := linesL_facts (cutT s 200).data.toList
  have hne := linesL_ne (cutT s 200).data.toList
  have hSl : (cutT s 200).data.toList.length ≤ 200 := hS
  have HLV := Lib.hid (fun w' he' => lLives w' he')
  rw [hRd] at F1
  generalize linesL (cutT s 200).data.toList = L at *
  have hLL : L.length ≤ 201 := by omega
  have HXL := Lib.hid (fun (k : Nat) (h : k < L.length) => Nat.le_trans (hl2 L[k] (List.getElem_mem h)) hSl)
  obtain ⟨M, hM0⟩ : ∃ M, cutL L = M := ⟨_, rfl⟩
  have hM := Lib.hid hM0
  have hI1 : Hid ((.ok lst : Except Nat (List Ev)) = preE [] (rdE 0 (M.drop 0))) := Lib.hid (by rw [List.drop_zero, ← hM0, hRd]; rfl)
  clear hM0 hRd hS hl1 hl2 hne hSl he
  go_enter Tryd.func3, Tryd.ntmps3
  go_wp2_with fail
  refine (xCut s 200 _).mono ?_; rintro e w1 ⟨rfl, rfl⟩
  go_wp2_with fail
  refine F1.out.mono ?_; rintro e w2 ⟨ao, cap, rfl, hoe, hb2⟩
  have HOE := Lib.hid hoe
  clear hoe
  go_wp2_with fail
  refine (F2.out _).mono ?_; rintro e w3 ⟨aol, capl, rfl, hosl, hb3⟩
  have HB3 := Lib.hid hb3
  have HB23 := Lib.hid (hb2.up hb3)
  have HOL := Lib.hid (fun i hi => os_at hosl i hi)
  have hob0 := orow_empty 32 12 w3.heap.size w3 (Nat.le_refl _)
  have hb0 : Below w3.heap.size w3 (w3.alloc (.cells #[] 32)) := (Below.refl _ _).alloc (Nat.le_refl _) _
  clear F1 F2 hb2 hb3 hosl
  go_wp2_with fail
  go_loopw [7, 8] (fun ov iv wr => ∃ (k : Nat) (ao3 : Option Addr) (cap3 : Nat) (acc : List Ev), iv = .int .i64 k ∧ k ≤ L.length ∧ ov = .slice ao3 acc.length cap3 ∧ acc.length ≤ k ∧ Hid (OEv w3.heap.size wr ao3 cap3 acc) ∧ Below w3.heap.size w3 wr ∧
    Hid ((.ok lst : Except Nat (List Ev)) = preE acc (rdE k (M.drop k)))) (fun _ iv _ => L.length - (intOf iv).toNat)
  case atStart => exact ⟨0, _, 0, [], rfl, Nat.zero_le _, rfl, Nat.le_refl _, Lib.hid hob0, hb0, hI1⟩
  case round =>
    obtain ⟨k, ao3, cap3, acc, rfl, hk, rfl, hal, hos, hbw, hI⟩ := hrel
    clear hob0 hb0 hI1
    have e0 : (0 : Int) ≤ (k : Int) := by omega
    have ek : IntKind.i64.wrap ((k : Int) + 1) = (k : Int) + 1 := IntWalk.i64_in _ (by omega)
    have hm : acc.length ≤ 1000000 := by omega
    by_cases hlt : k < L.length
    · have e1 : (k : Int) < (L.length : Int) := by omega
      have hxl : L[k].length ≤ 10000 := Nat.le_trans (HXL.out k hlt) (by decide)
      obtain ⟨gl, rfl, hgl, hcl⟩ := HOL.out k hlt
      have hc : wr.cell? ⟨gl, k, none⟩ = some (.string ⟨L[k].toArray⟩) := hcl _ hbw
      clear hcl hgl
      by_cases hbr : k + 1 = L.length
      · have e2 : (((k : Int) + 1) == (L.length : Int)) = true := by rw [beq_iff_eq]; omega
        have e3 : (k : Int) + 1 = (L.length : Int) := by omega
        cases hx0 : L[k].isEmpty with
        | true =>
          have hx : L[k] = [] := List.isEmpty_iff.1 hx0
          have hd := cutL_break L k hlt hbr hx
          rw [hM.out] at hd
          have hI2 := hI.out
          rw [hd] at hI2
          generalize L[k] = x at *
          clear hI hd hx hxl
          have hla : lst = acc := by injection hI2 with h; rw [h]; exact List.append_nil _
          subst hla
          clear hI2
          go_wp2_with fail
          refine (sSame lst ao ao3 cap cap3 _ _ _ (oev_later (oev_later HOE.out HB3.out) hbw) hos.out (by omega)).mono ?_; rintro e w8 ⟨rfl, hb8⟩
          have hb9 := (HB23.out.up hbw).up hb8
          go_wp2_with fail
          refine (HLV.out _ (HE.out.later hb9)).mono ?_; rintro e w9 ⟨rfl, hb10⟩
          go_wp2_with fail
          go_ret
          exact ⟨rfl, hb9.up hb10⟩
        | false =>
          have hx : ¬ L[k] = [] := fun h => by rw [h] at hx0; cases hx0
          obtain ⟨-, hdr⟩ := cutL_at L k hlt (by intro h; first | exact hbr h | exact hbr h.1 | exact hx h.2)
          rw [hM.out] at hdr
          have hI2 := hI.out
          rw [hdr] at hI2
          have HPs := Lib.hid (lParse L[k] hxl wr (HE.out.later (HB23.out.up hbw)))
          generalize L[k] = x at *
          clear hdr hI hxl hbr
          cases hp : parseEv x with
          | none =>
            rw [hp] at HPs
            have HPs : Hid (Calls Tryd.prog 7 #[.string ⟨x.toArray⟩] wr fun e w' => e = .returned (.tuple #[.agg #[.int .i64 0, .int .i64 0, .int .i64 0, .int .i64 0, .string ⟨#[]⟩, .int .i64 0, .int .i64 0, .int .i64 0, .int .i64 0, .int .i64 0, .int .i64 0, .int .i64 0], .int .i64 2]) ∧ Below wr.heap.size wr w') := HPs
            have hR := hI2.trans (rdE_none acc hp)
            cases hR
          | some y =>
            rw [hp] at HPs
            have HPs : Hid (Calls Tryd.prog 7 #[.string ⟨x.toArray⟩] wr fun e w' => e = .returned (.tuple #[.agg #[.int .i64 y.kind, .int .i64 y.id, .int .i64 y.n, .int .i64 y.tick, .string y.bytes, .int .i64 y.err, .int .i64 y.sT, .int .i64 y.sA, .int .i64 y.sW, .int .i64 y.sR, .int .i64 y.sN, .int .i64 y.sS], .int .i64 0]) ∧ Below wr.heap.size wr w') := HPs
            have HR := Lib.hid (hI2.trans (rdE_some acc hp))
            clear hI2 hp
            go_wp2_with fail
            refine HPs.out.mono ?_; rintro e w5 ⟨rfl, hb5⟩
            have hos2 := oev_later hos.out hb5
            have hbw4 := hbw.up hb5
            unfold OEv at hos2
            clear hos hbw hb5
            go_wp2_with (at_builtin; refine wpList_append_elem infoEv rfl (by decide) (by decide) Tryd.underlying23 _ rfl _ _ rfl w3.heap.size _ _ _ rfl (World.ownsRow.alloc (World.ownsRow.alloc hos2 _) _) (w5.heap.size + 1) rfl [.int .i64 y.kind, .int .i64 y.id, .int .i64 y.n, .int .i64 y.tick, .string y.bytes, .int .i64 y.err, .int .i64 y.sT, .int .i64 y.sA, .int .i64 y.sW, .int .i64 y.sR, .int .i64 y.sN, .int .i64 y.sS] rfl ?ta1 ?ta2 hm ?ta3 ?ta4)
            case ta1 =>
              have kq : Blk ((w5.alloc (.cells #[.int .i64 y.kind, .int .i64 y.id, .int .i64 y.n, .int .i64 y.tick, .string y.bytes, .int .i64 y.err, .int .i64 y.sT, .int .i64 y.sA, .int .i64 y.sW, .int .i64 y.sR, .int .i64 y.sN, .int .i64 y.sS] 32)).alloc (.cells #[.int .i64 y.kind, .int .i64 y.id, .int .i64 y.n, .int .i64 y.tick, .string y.bytes, .int .i64 y.err, .int .i64 y.sT, .int .i64 y.sA, .int .i64 y.sW, .int .i64 y.sR, .int .i64 y.sN, .int .i64 y.sS] 32)) (w5.heap.size + 1) 32 #[.int .i64 y.kind, .int .i64 y.id, .int .i64 y.n, .int .i64 y.tick, .string y.bytes, .int .i64 y.err, .int .i64 y.sT, .int .i64 y.sA, .int .i64 y.sW, .int .i64 y.sR, .int .i64 y.sN, .int .i64 y.sS] := by simpa using Blk.new (w5.alloc (.cells #[.int .i64 y.kind, .int .i64 y.id, .int .i64 y.n, .int .i64 y.tick, .string y.bytes, .int .i64 y.err, .int .i64 y.sT, .int .i64 y.sA, .int .i64 y.sW, .int .i64 y.sR, .int .i64 y.sN, .int .i64 y.sS] 32)) 32 #[.int .i64 y.kind, .int .i64 y.id, .int .i64 y.n, .int .i64 y.tick, .string y.bytes, .int .i64 y.err, .int .i64 y.sT, .int .i64 y.sA, .int .i64 y.sW, .int .i64 y.sR, .int .i64 y.sN, .int .i64 y.sS]
              intro jj u hj
              exact (kq.cell jj).trans (by simpa using hj)
            case ta2 => intro u hu; simp at hu; rcases hu with rfl | rfl | rfl | rfl | rfl | rfl | rfl | rfl | rfl | rfl | rfl | rfl <;> rfl
            case ta3 => have := hbw4.size; simp; omega
            case ta4 =>
              intro ao' cap' w7 g3 g4
              have hbw5 : Below w3.heap.size w3 w7 := orow_below (World.ownsRow.alloc (World.ownsRow.alloc hos2 _) _) ((hbw4.alloc hbw4.size _).alloc (by have := hbw4.size; simp; omega) _) g4 (Nat.le_refl _)
              have hl1 : (acc ++ [y]).length = acc.length + 1 := by simp
              have hos3 : OEv w3.heap.size w7 ao' cap' (acc ++ [y]) := by
                unfold OEv
                rw [hl1, evsCells_snoc]
                exact g3
              have HOS := Lib.hid hos3
              clear g3 g4 hos2 hos3 hbw4
              go_wp2_with fail
              go_roundw
              case rel => exact ⟨k + 1, ao', cap', _, by go_num, by omega, by rw [hl1], by omega, HOS, hbw5, HR⟩
              case measure => simp [intOf]; omega
      · have e2 : (((k : Int) + 1) == (L.length : Int)) = false := by rw [beq_eq_false_iff_ne]; omega
        have e3 : ¬ (k : Int) + 1 = (L.length : Int) := by omega
        obtain ⟨-, hdr⟩ := cutL_at L k hlt (by intro h; first | exact hbr h | exact hbr h.1 | exact hx h.2)
        rw [hM.out] at hdr
        have hI2 := hI.out
        rw [hdr] at hI2
        have HPs := Lib.hid (lParse L[k] hxl wr (HE.out.later (HB23.out.up hbw)))
        generalize L[k] = x at *
        clear hdr hI hxl hbr
        cases hp : parseEv x with
        | none =>
          rw [hp] at HPs
          have HPs : Hid (Calls Tryd.prog 7 #[.string ⟨x.toArray⟩] wr fun e w' => e = .returned (.tuple #[.agg #[.int .i64 0, .int .i64 0, .int .i64 0, .int .i64 0, .string ⟨#[]⟩, .int .i64 0, .int .i64 0, .int .i64 0, .int .i64 0, .int .i64 0, .int .i64 0, .int .i64 0], .int .i64 2]) ∧ Below wr.heap.size wr w') := HPs
          have hR := hI2.trans (rdE_none acc hp)
          cases hR
        | some y =>
          rw [hp] at HPs
          have HPs : Hid (Calls Tryd.prog 7 #[.string ⟨x.toArray⟩] wr fun e w' => e = .returned (.tuple #[.agg #[.int .i64 y.kind, .int .i64 y.id, .int .i64 y.n, .int .i64 y.tick, .string y.bytes, .int .i64 y.err, .int .i64 y.sT, .int .i64 y.sA, .int .i64 y.sW, .int .i64 y.sR, .int .i64 y.sN, .int .i64 y.sS], .int .i64 0]) ∧ Below wr.heap.size wr w') := HPs
          have HR := Lib.hid (hI2.trans (rdE_some acc hp))
          clear hI2 hp
          go_wp2_with fail
          refine HPs.out.mono ?_; rintro e w5 ⟨rfl, hb5⟩
          have hos2 := oev_later hos.out hb5
          have hbw4 := hbw.up hb5
          unfold OEv at hos2
          clear hos hbw hb5
          go_wp2_with (at_builtin; refine wpList_append_elem infoEv rfl (by decide) (by decide) Tryd.underlying23 _ rfl _ _ rfl w3.heap.size _ _ _ rfl (World.ownsRow.alloc (World.ownsRow.alloc hos2 _) _) (w5.heap.size + 1) rfl [.int .i64 y.kind, .int .i64 y.id, .int .i64 y.n, .int .i64 y.tick, .string y.bytes, .int .i64 y.err, .int .i64 y.sT, .int .i64 y.sA, .int .i64 y.sW, .int .i64 y.sR, .int .i64 y.sN, .int .i64 y.sS] rfl ?ta1 ?ta2 hm ?ta3 ?ta4)
          case ta1 =>
            have kq : Blk ((w5.alloc (.cells #[.int .i64 y.kind, .int .i64 y.id, .int .i64 y.n, .int .i64 y.tick, .string y.bytes, .int .i64 y.err, .int .i64 y.sT, .int .i64 y.sA, .int .i64 y.sW, .int .i64 y.sR, .int .i64 y.sN, .int .i64 y.sS] 32)).alloc (.cells #[.int .i64 y.kind, .int .i64 y.id, .int .i64 y.n, .int .i64 y.tick, .string y.bytes, .int .i64 y.err, .int .i64 y.sT, .int .i64 y.sA, .int .i64 y.sW, .int .i64 y.sR, .int .i64 y.sN, .int .i64 y.sS] 32)) (w5.heap.size + 1) 32 #[.int .i64 y.kind, .int .i64 y.id, .int .i64 y.n, .int .i64 y.tick, .string y.bytes, .int .i64 y.err, .int .i64 y.sT, .int .i64 y.sA, .int .i64 y.sW, .int .i64 y.sR, .int .i64 y.sN, .int .i64 y.sS] := by simpa using Blk.new (w5.alloc (.cells #[.int .i64 y.kind, .int .i64 y.id, .int .i64 y.n, .int .i64 y.tick, .string y.bytes, .int .i64 y.err, .int .i64 y.sT, .int .i64 y.sA, .int .i64 y.sW, .int .i64 y.sR, .int .i64 y.sN, .int .i64 y.sS] 32)) 32 #[.int .i64 y.kind, .int .i64 y.id, .int .i64 y.n, .int .i64 y.tick, .string y.bytes, .int .i64 y.err, .int .i64 y.sT, .int .i64 y.sA, .int .i64 y.sW, .int .i64 y.sR, .int .i64 y.sN, .int .i64 y.sS]
            intro jj u hj
            exact (kq.cell jj).trans (by simpa using hj)
          case ta2 => intro u hu; simp at hu; rcases hu with rfl | rfl | rfl | rfl | rfl | rfl | rfl | rfl | rfl | rfl | rfl | rfl <;> rfl
          case ta3 => have := hbw4.size; simp; omega
          case ta4 =>
            intro ao' cap' w7 g3 g4
            have hbw5 : Below w3.heap.size w3 w7 := orow_below (World.ownsRow.alloc (World.ownsRow.alloc hos2 _) _) ((hbw4.alloc hbw4.size _).alloc (by have := hbw4.size; simp; omega) _) g4 (Nat.le_refl _)
            have hl1 : (acc ++ [y]).length = acc.length + 1 := by simp
            have hos3 : OEv w3.heap.size w7 ao' cap' (acc ++ [y]) := by
              unfold OEv
              rw [hl1, evsCells_snoc]
              exact g3
            have HOS := Lib.hid hos3
            clear g3 g4 hos2 hos3 hbw4
            go_wp2_with fail
            go_roundw
            case rel => exact ⟨k + 1, ao', cap', _, by go_num, by omega, by rw [hl1], by omega, HOS, hbw5, HR⟩
            case measure => simp [intOf]; omega
    · obtain rfl : k = L.length := by omega
      have hI2 := hI.out
      have hd := cutL_end L
      rw [hM.out] at hd
      rw [hd] at hI2
      clear hI hd
      have hla : lst = acc := by injection hI2 with h; rw [h]; exact List.append_nil _
      subst hla
      clear hI2
      go_wp2_with fail
      refine (sSame lst ao ao3 cap cap3 _ _ _ (oev_later (oev_later HOE.out HB3.out) hbw) hos.out (by omega)).mono ?_; rintro e w8 ⟨rfl, hb8⟩
      have hb9 := (HB23.out.up hbw).up hb8
      go_wp2_with fail
      refine (HLV.out _ (HE.out.later hb9)).mono ?_; rintro e w9 ⟨rfl, hb10⟩
      go_wp2_with fail
      go_ret
      exact ⟨rfl, hb9.up hb10⟩

set_option maxHeartbeats 8000000 in
set_option maxRecDepth 100000 in
theorem logReads_err (s : ByteArray) (w : World) (he : EnvL w) (j : Nat) (hRd : rdE 0 (cutL (linesL (cutT s 200).data.toList)) = .error j) : Calls Tryd.prog 3 #[.string s] w fun e w' => e = .returned (.bool true) ∧ Below w.heap.size w w' := by
  have hS := cutT_size s 200
  have HE := Lib.hid he
  have F1 := Lib.hid (lRead (cutT s 200) w (by omega) he)
  have F2 := Lib.hid (fun w' => yLines (cutT s 200) w' (by omega))
  obtain ⟨hl1, hl2⟩ := linesL_facts (cutT s 200).data.toList
  have hne := linesL_ne (cutT s 200).data.toList
  have hSl : (cutT s 200).data.toList.length ≤ 200 := hS
  have HLV := Lib.hid (fun w' he' => lLives w' he')
  rw [hRd] at F1
  generalize linesL (cutT s 200).data.toList = L at *
  have hLL : L.length ≤ 201 := by omega
  have HXL := Lib.hid (fun (k : Nat) (h : k < L.length) => Nat.le_trans (hl2 L[k] (List.getElem_mem h)) hSl)
  obtain ⟨M, hM0⟩ : ∃ M, cutL L = M := ⟨_, rfl⟩
  have hM := Lib.hid hM0
  have hI1 : Hid ((.error j : Except Nat (List Ev)) = preE [] (rdE 0 (M.drop 0))) := Lib.hid (by rw [List.drop_zero, ← hM0, hRd]; rfl)
  clear hM0 hRd hS hl1 hl2 hne hSl he
  go_enter Tryd.func3, Tryd.ntmps3
  go_wp2_with fail
  refine (xCut s 200 _).mono ?_; rintro e w1 ⟨rfl, rfl⟩
  go_wp2_with fail
  refine F1.out.mono ?_; rintro e w2 ⟨rfl, hb2⟩
  go_wp2_with fail
  refine (F2.out _).mono ?_; rintro e w3 ⟨aol, capl, rfl, hosl, hb3⟩
  have HB3 := Lib.hid hb3
  have HB23 := Lib.hid (hb2.up hb3)
  have HOL := Lib.hid (fun i hi => os_at hosl i hi)
  have hob0 := orow_empty 32 12 w3.heap.size w3 (Nat.le_refl _)
  have hb0 : Below w3.heap.size w3 (w3.alloc (.cells #[] 32)) := (Below.refl _ _).alloc (Nat.le_refl _) _
  clear F1 F2 hb2 hb3 hosl
  go_wp2_with fail
  go_loopw [7, 8] (fun ov iv wr => ∃ (k : Nat) (ao3 : Option Addr) (cap3 : Nat) (acc : List Ev), iv = .int .i64 k ∧ k ≤ L.length ∧ ov = .slice ao3 acc.length cap3 ∧ acc.length ≤ k ∧ Hid (OEv w3.heap.size wr ao3 cap3 acc) ∧ Below w3.heap.size w3 wr ∧
    Hid ((.error j : Except Nat (List Ev)) = preE acc (rdE k (M.drop k)))) (fun _ iv _ => L.length - (intOf iv).toNat)
  case atStart => exact ⟨0, _, 0, [], rfl, Nat.zero_le _, rfl, Nat.le_refl _, Lib.hid hob0, hb0, hI1⟩
  case round =>
    obtain ⟨k, ao3, cap3, acc, rfl, hk, rfl, hal, hos, hbw, hI⟩ := hrel
    clear hob0 hb0 hI1
    have e0 : (0 : Int) ≤ (k : Int) := by omega
    have ek : IntKind.i64.wrap ((k : Int) + 1) = (k : Int) + 1 := IntWalk.i64_in _ (by omega)
    have hm : acc.length ≤ 1000000 := by omega
    by_cases hlt : k < L.length
    · have e1 : (k : Int) < (L.length : Int) := by omega
      have hxl : L[k].length ≤ 10000 := Nat.le_trans (HXL.out k hlt) (by decide)
      obtain ⟨gl, rfl, hgl, hcl⟩ := HOL.out k hlt
      have hc : wr.cell? ⟨gl, k, none⟩ = some (.string ⟨L[k].toArray⟩) := hcl _ hbw
      clear hcl hgl
      by_cases hbr : k + 1 = L.length
      · have e2 : (((k : Int) + 1) == (L.length : Int)) = true := by rw [beq_iff_eq]; omega
        have e3 : (k : Int) + 1 = (L.length : Int) := by omega
        cases hx0 : L[k].isEmpty with
        | true =>
          have hx : L[k] = [] := List.isEmpty_iff.1 hx0
          have hd := cutL_break L k hlt hbr hx
          rw [hM.out] at hd
          have hI2 := hI.out
          rw [hd] at hI2
          generalize L[k] = x at *
          clear hI hd hx hxl
          cases hI2
        | false =>
          have hx : ¬ L[k] = [] := fun h => by rw [h] at hx0; cases hx0
          obtain ⟨-, hdr⟩ := cutL_at L k hlt (by intro h; first | exact hbr h | exact hbr h.1 | exact hx h.2)
          rw [hM.out] at hdr
          have hI2 := hI.out
          rw [hdr] at hI2
          have HPs := Lib.hid (lParse L[k] hxl wr (HE.out.later (HB23.out.up hbw)))
          generalize L[k] = x at *
          clear hdr hI hxl hbr
          cases hp : parseEv x with
          | none =>
            rw [hp] at HPs
            have HPs : Hid (Calls Tryd.prog 7 #[.string ⟨x.toArray⟩] wr fun e w' => e = .returned (.tuple #[.agg #[.int .i64 0, .int .i64 0, .int .i64 0, .int .i64 0, .string ⟨#[]⟩, .int .i64 0, .int .i64 0, .int .i64 0, .int .i64 0, .int .i64 0, .int .i64 0, .int .i64 0], .int .i64 2]) ∧ Below wr.heap.size wr w') := HPs
            have hR := hI2.trans (rdE_none acc hp)
            have hj : j = k + 1 := by injection hR
            subst hj
            clear hI2 hp hR
            go_wp2_with fail
            refine HPs.out.mono ?_; rintro e w5 ⟨rfl, hb5⟩
            have hb6 := (HB23.out.up hbw).up hb5
            have ej : IntKind.i64.wrap ((k : Int) + 1) = (k : Int) + 1 := IntWalk.i64_in _ (by omega)
            go_wp2_with fail
            refine (HLV.out _ (HE.out.later (hb6.alloc hb6.size _))).mono ?_; rintro e w6 ⟨rfl, hb7⟩
            go_wp2_with fail
            go_ret
            exact ⟨rfl, (hb6.alloc hb6.size _).up hb7⟩
          | some y =>
            rw [hp] at HPs
            have HPs : Hid (Calls Tryd.prog 7 #[.string ⟨x.toArray⟩] wr fun e w' => e = .returned (.tuple #[.agg #[.int .i64 y.kind, .int .i64 y.id, .int .i64 y.n, .int .i64 y.tick, .string y.bytes, .int .i64 y.err, .int .i64 y.sT, .int .i64 y.sA, .int .i64 y.sW, .int .i64 y.sR, .int .i64 y.sN, .int .i64 y.sS], .int .i64 0]) ∧ Below wr.heap.size wr w') := HPs
            have HR := Lib.hid (hI2.trans (rdE_some acc hp))
            clear hI2 hp
            go_wp2_with fail
            refine HPs.out.mono ?_; rintro e w5 ⟨rfl, hb5⟩
            have hos2 := oev_later hos.out hb5
            have hbw4 := hbw.up hb5
            unfold OEv at hos2
            clear hos hbw hb5
            go_wp2_with (at_builtin; refine wpList_append_elem infoEv rfl (by decide) (by decide) Tryd.underlying23 _ rfl _ _ rfl w3.heap.size _ _ _ rfl (World.ownsRow.alloc (World.ownsRow.alloc hos2 _) _) (w5.heap.size + 1) rfl [.int .i64 y.kind, .int .i64 y.id, .int .i64 y.n, .int .i64 y.tick, .string y.bytes, .int .i64 y.err, .int .i64 y.sT, .int .i64 y.sA, .int .i64 y.sW, .int .i64 y.sR, .int .i64 y.sN, .int .i64 y.sS] rfl ?ta1 ?ta2 hm ?ta3 ?ta4)
            case ta1 =>
              have kq : Blk ((w5.alloc (.cells #[.int .i64 y.kind, .int .i64 y.id, .int .i64 y.n, .int .i64 y.tick, .string y.bytes, .int .i64 y.err, .int .i64 y.sT, .int .i64 y.sA, .int .i64 y.sW, .int .i64 y.sR, .int .i64 y.sN, .int .i64 y.sS] 32)).alloc (.cells #[.int .i64 y.kind, .int .i64 y.id, .int .i64 y.n, .int .i64 y.tick, .string y.bytes, .int .i64 y.err, .int .i64 y.sT, .int .i64 y.sA, .int .i64 y.sW, .int .i64 y.sR, .int .i64 y.sN, .int .i64 y.sS] 32)) (w5.heap.size + 1) 32 #[.int .i64 y.kind, .int .i64 y.id, .int .i64 y.n, .int .i64 y.tick, .string y.bytes, .int .i64 y.err, .int .i64 y.sT, .int .i64 y.sA, .int .i64 y.sW, .int .i64 y.sR, .int .i64 y.sN, .int .i64 y.sS] := by simpa using Blk.new (w5.alloc (.cells #[.int .i64 y.kind, .int .i64 y.id, .int .i64 y.n, .int .i64 y.tick, .string y.bytes, .int .i64 y.err, .int .i64 y.sT, .int .i64 y.sA, .int .i64 y.sW, .int .i64 y.sR, .int .i64 y.sN, .int .i64 y.sS] 32)) 32 #[.int .i64 y.kind, .int .i64 y.id, .int .i64 y.n, .int .i64 y.tick, .string y.bytes, .int .i64 y.err, .int .i64 y.sT, .int .i64 y.sA, .int .i64 y.sW, .int .i64 y.sR, .int .i64 y.sN, .int .i64 y.sS]
              intro jj u hj
              exact (kq.cell jj).trans (by simpa using hj)
            case ta2 => intro u hu; simp at hu; rcases hu with rfl | rfl | rfl | rfl | rfl | rfl | rfl | rfl | rfl | rfl | rfl | rfl <;> rfl
            case ta3 => have := hbw4.size; simp; omega
            case ta4 =>
              intro ao' cap' w7 g3 g4
              have hbw5 : Below w3.heap.size w3 w7 := orow_below (World.ownsRow.alloc (World.ownsRow.alloc hos2 _) _) ((hbw4.alloc hbw4.size _).alloc (by have := hbw4.size; simp; omega) _) g4 (Nat.le_refl _)
              have hl1 : (acc ++ [y]).length = acc.length + 1 := by simp
              have hos3 : OEv w3.heap.size w7 ao' cap' (acc ++ [y]) := by
                unfold OEv
                rw [hl1, evsCells_snoc]
                exact g3
              have HOS := Lib.hid hos3
              clear g3 g4 hos2 hos3 hbw4
              go_wp2_with fail
              go_roundw
              case rel => exact ⟨k + 1, ao', cap', _, by go_num, by omega, by rw [hl1], by omega, HOS, hbw5, HR⟩
              case measure => simp [intOf]; omega
      · have e2 : (((k : Int) + 1) == (L.length : Int)) = false := by rw [beq_eq_false_iff_ne]; omega
        have e3 : ¬ (k : Int) + 1 = (L.length : Int) := by omega
        obtain ⟨-, hdr⟩ := cutL_at L k hlt (by intro h; first | exact hbr h | exact hbr h.1 | exact hx h.2)
        rw [hM.out] at hdr
        have hI2 := hI.out
        rw [hdr] at hI2
        have HPs := Lib.hid (lParse L[k] hxl wr (HE.out.later (HB23.out.up hbw)))
        generalize L[k] = x at *
        clear hdr hI hxl hbr
        cases hp : parseEv x with
        | none =>
          rw [hp] at HPs
          have HPs : Hid (Calls Tryd.prog 7 #[.string ⟨x.toArray⟩] wr fun e w' => e = .returned (.tuple #[.agg #[.int .i64 0, .int .i64 0, .int .i64 0, .int .i64 0, .string ⟨#[]⟩, .int .i64 0, .int .i64 0, .int .i64 0, .int .i64 0, .int .i64 0, .int .i64 0, .int .i64 0], .int .i64 2]) ∧ Below wr.heap.size wr w') := HPs
          have hR := hI2.trans (rdE_none acc hp)
          have hj : j = k + 1 := by injection hR
          subst hj
          clear hI2 hp hR
          go_wp2_with fail
          refine HPs.out.mono ?_; rintro e w5 ⟨rfl, hb5⟩
          have hb6 := (HB23.out.up hbw).up hb5
          have ej : IntKind.i64.wrap ((k : Int) + 1) = (k : Int) + 1 := IntWalk.i64_in _ (by omega)
          go_wp2_with fail
          refine (HLV.out _ (HE.out.later (hb6.alloc hb6.size _))).mono ?_; rintro e w6 ⟨rfl, hb7⟩
          go_wp2_with fail
          go_ret
          exact ⟨rfl, (hb6.alloc hb6.size _).up hb7⟩
        | some y =>
          rw [hp] at HPs
          have HPs : Hid (Calls Tryd.prog 7 #[.string ⟨x.toArray⟩] wr fun e w' => e = .returned (.tuple #[.agg #[.int .i64 y.kind, .int .i64 y.id, .int .i64 y.n, .int .i64 y.tick, .string y.bytes, .int .i64 y.err, .int .i64 y.sT, .int .i64 y.sA, .int .i64 y.sW, .int .i64 y.sR, .int .i64 y.sN, .int .i64 y.sS], .int .i64 0]) ∧ Below wr.heap.size wr w') := HPs
          have HR := Lib.hid (hI2.trans (rdE_some acc hp))
          clear hI2 hp
          go_wp2_with fail
          refine HPs.out.mono ?_; rintro e w5 ⟨rfl, hb5⟩
          have hos2 := oev_later hos.out hb5
          have hbw4 := hbw.up hb5
          unfold OEv at hos2
          clear hos hbw hb5
          go_wp2_with (at_builtin; refine wpList_append_elem infoEv rfl (by decide) (by decide) Tryd.underlying23 _ rfl _ _ rfl w3.heap.size _ _ _ rfl (World.ownsRow.alloc (World.ownsRow.alloc hos2 _) _) (w5.heap.size + 1) rfl [.int .i64 y.kind, .int .i64 y.id, .int .i64 y.n, .int .i64 y.tick, .string y.bytes, .int .i64 y.err, .int .i64 y.sT, .int .i64 y.sA, .int .i64 y.sW, .int .i64 y.sR, .int .i64 y.sN, .int .i64 y.sS] rfl ?ta1 ?ta2 hm ?ta3 ?ta4)
          case ta1 =>
            have kq : Blk ((w5.alloc (.cells #[.int .i64 y.kind, .int .i64 y.id, .int .i64 y.n, .int .i64 y.tick, .string y.bytes, .int .i64 y.err, .int .i64 y.sT, .int .i64 y.sA, .int .i64 y.sW, .int .i64 y.sR, .int .i64 y.sN, .int .i64 y.sS] 32)).alloc (.cells #[.int .i64 y.kind, .int .i64 y.id, .int .i64 y.n, .int .i64 y.tick, .string y.bytes, .int .i64 y.err, .int .i64 y.sT, .int .i64 y.sA, .int .i64 y.sW, .int .i64 y.sR, .int .i64 y.sN, .int .i64 y.sS] 32)) (w5.heap.size + 1) 32 #[.int .i64 y.kind, .int .i64 y.id, .int .i64 y.n, .int .i64 y.tick, .string y.bytes, .int .i64 y.err, .int .i64 y.sT, .int .i64 y.sA, .int .i64 y.sW, .int .i64 y.sR, .int .i64 y.sN, .int .i64 y.sS] := by simpa using Blk.new (w5.alloc (.cells #[.int .i64 y.kind, .int .i64 y.id, .int .i64 y.n, .int .i64 y.tick, .string y.bytes, .int .i64 y.err, .int .i64 y.sT, .int .i64 y.sA, .int .i64 y.sW, .int .i64 y.sR, .int .i64 y.sN, .int .i64 y.sS] 32)) 32 #[.int .i64 y.kind, .int .i64 y.id, .int .i64 y.n, .int .i64 y.tick, .string y.bytes, .int .i64 y.err, .int .i64 y.sT, .int .i64 y.sA, .int .i64 y.sW, .int .i64 y.sR, .int .i64 y.sN, .int .i64 y.sS]
            intro jj u hj
            exact (kq.cell jj).trans (by simpa using hj)
          case ta2 => intro u hu; simp at hu; rcases hu with rfl | rfl | rfl | rfl | rfl | rfl | rfl | rfl | rfl | rfl | rfl | rfl <;> rfl
          case ta3 => have := hbw4.size; simp; omega
          case ta4 =>
            intro ao' cap' w7 g3 g4
            have hbw5 : Below w3.heap.size w3 w7 := orow_below (World.ownsRow.alloc (World.ownsRow.alloc hos2 _) _) ((hbw4.alloc hbw4.size _).alloc (by have := hbw4.size; simp; omega) _) g4 (Nat.le_refl _)
            have hl1 : (acc ++ [y]).length = acc.length + 1 := by simp
            have hos3 : OEv w3.heap.size w7 ao' cap' (acc ++ [y]) := by
              unfold OEv
              rw [hl1, evsCells_snoc]
              exact g3
            have HOS := Lib.hid hos3
            clear g3 g4 hos2 hos3 hbw4
            go_wp2_with fail
            go_roundw
            case rel => exact ⟨k + 1, ao', cap', _, by go_num, by omega, by rw [hl1], by omega, HOS, hbw5, HR⟩
            case measure => simp [intOf]; omega
    · obtain rfl : k = L.length := by omega
      have hI2 := hI.out
      have hd := cutL_end L
      rw [hM.out] at hd
      rw [hd] at hI2
      clear hI hd
      cases hI2

theorem logReads (s : ByteArray) (w : World) (he : EnvL w) : Calls Tryd.prog 3 #[.string s] w fun e w' => e = .returned (.bool true) ∧ Below w.heap.size w w' := by
  cases h : rdE 0 (cutL (linesL (cutT s 200).data.toList)) with
  | ok lst => exact logReads_ok s w he lst h
  | error j => exact logReads_err s w he j h
end Go.Proofs.YtmnkekepccdlcaaDoor
