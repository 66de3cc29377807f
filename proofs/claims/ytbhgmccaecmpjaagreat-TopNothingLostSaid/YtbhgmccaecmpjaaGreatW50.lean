/-
  play.Ends, of events of one who is opened.
  Conditions: the events are of the one, and none says that the engine stops.
-/
import Derived.Test.YtbhgmccaecmpjaaGreatW49
namespace Go.Proofs.YtbhgmccaecmpjaaGreat
set_option linter.unusedVariables false
set_option linter.unusedSimpArgs false
open Go.RowKit Go.ChangeMaps

def opsN (l : List EvT) : Bool := l.any fun v => v.k == 2
theorem opsN_snoc (l : List EvT) (v : EvT) : opsN (l ++ [v]) = (opsN l || v.k == 2) := by unfold opsN; simp
theorem atKey_on (on : Bool) : (mapD on 0).atKey (.int .i64 0) (.lit (.int .i64 0)) = .lit (.int .i64 0) := by cases on <;> rfl
theorem atKey_v (v : Int) : (mapD true v).atKey (.int .i64 0) (.lit (.int .i64 0)) = .lit (.int .i64 v) := rfl
set_option maxRecDepth 100000 in
set_option maxHeartbeats 8000000 in
theorem plEnds {w : World} (g n cap : Nat) (L : List EvT) (h : EvsAt w g L) (hn : n = L.length) (hl : ∀ v ∈ L, v.i = 0 ∧ v.k ≠ 9) (hs : ∀ v ∈ L, (Lit.int IntKind.i64 v.s5).wf = true) (ho : opsN L = true) (hn9 : n ≤ 1000000) :
    Calls Tryz.prog 12 #[.slice (some ⟨g, 0, none⟩) n cap] w fun e w' => ∃ m, e = .returned (.tuple #[.map (some m), .bool false]) ∧ MapI w' m (mapD true (stF 0 L)) ∧ Below w.heap.size w w' := by
  obtain ⟨mm, hmm⟩ : ∃ m, w.heap.size = m := ⟨_, rfl⟩
  obtain ⟨w1, hw1⟩ : ∃ w1, w1 = w.alloc (.map #[] 0) := ⟨_, rfl⟩
  have b1 : Below w.heap.size w w1 := by rw [hw1]; exact Below.alloc (Below.refl _ _) (Nat.le_refl _) _
  have M1 : Hid (MapI w1 mm (mapD (opsN (L.take 0)) 0)) := Lib.hid (by rw [hw1, ← hmm]; exact ⟨0, by decide, World.ownsMap_made _ _ _ _⟩)
  have HW1 := Lib.hid hw1
  have HMM := Lib.hid hmm
  have HE := Lib.hid h
  have HL := Lib.hid hl
  have HN := Lib.hid hn
  have HS := Lib.hid hs
  have HO := Lib.hid ho
  have B1 := Lib.hid b1
  clear h hl hn hs ho hmm hw1 b1
  have MM := @run_makeMap Tryz.prog
  go_enter Tryz.func12, Tryz.ntmps12
  go_upto_region 2 with fail
  clear MM
  rw [← HW1.out, HMM.out]
  go_wp2_with fail
  go_loopw [5, 17] (fun bv iv wr => ∃ k : Nat, bv = .bool false ∧ iv = .int .i64 k ∧ k ≤ n ∧ Hid (MapI wr mm (mapD (opsN (L.take k)) 0)) ∧ Hid (Below w.heap.size w wr)) (fun _ iv _ => n - (intOf iv).toNat)
  case atStart => exact ⟨0, rfl, rfl, Nat.zero_le _, M1, B1⟩
  case round =>
    clear M1 B1
    obtain ⟨k, rfl, rfl, hk, HM, HBw⟩ := hrel
    by_cases hlt : k < n
    · have e1 : (k : Int) < (n : Int) := by omega
      obtain ⟨v, hv⟩ : ∃ v, L[k]? = some v := ⟨L[k]'(by have := HN.out; omega), List.getElem?_eq_getElem _⟩
      obtain ⟨vk, vi, vn, vt, vb, ve, s0, s1, s2, s3, s4, s5⟩ := v
      have hvm := HL.out _ (List.mem_of_getElem? hv)
      simp only at hvm
      obtain ⟨hvi, hv9⟩ := hvm
      subst hvi
      have n9 : (vk == 9) = false := ne_b hv9
      have d : ∀ w', Below wr.heap.size wr w' → w'.cell? ⟨g, k * 12, none⟩ = some (.int .i64 vk) ∧ w'.cell? ⟨g, k * 12 + 1, none⟩ = some (.int .i64 0) ∧ w'.cell? ⟨g, k * 12 + 2, none⟩ = some (.int .i64 vn) ∧ w'.cell? ⟨g, k * 12 + 3, none⟩ = some (.int .i64 vt) ∧ w'.cell? ⟨g, k * 12 + 4, none⟩ = some (.string vb) ∧ w'.cell? ⟨g, k * 12 + 5, none⟩ = some (.int .i64 ve) ∧ w'.cell? ⟨g, k * 12 + 6, none⟩ = some (.int .i64 s0) ∧ w'.cell? ⟨g, k * 12 + 7, none⟩ = some (.int .i64 s1) ∧ w'.cell? ⟨g, k * 12 + 8, none⟩ = some (.int .i64 s2) ∧ w'.cell? ⟨g, k * 12 + 9, none⟩ = some (.int .i64 s3) ∧ w'.cell? ⟨g, k * 12 + 10, none⟩ = some (.int .i64 s4) ∧ w'.cell? ⟨g, k * 12 + 11, none⟩ = some (.int .i64 s5) := fun w' hb => (HE.out.later (HBw.out.up hb)).cell k _ hv
      have HV := Lib.hid hv
      clear hv hv9
      have hr := Below.refl wr.heap.size wr
      obtain ⟨q13, hq13⟩ : ∃ q, wr.heap.size = q := ⟨_, rfl⟩
      obtain ⟨w9, hw9⟩ : ∃ w9, w9 = wr.alloc (.cells #[.int .i64 vk, .int .i64 0, .int .i64 vn, .int .i64 vt, .string vb, .int .i64 ve, .int .i64 s0, .int .i64 s1, .int .i64 s2, .int .i64 s3, .int .i64 s4, .int .i64 s5] 69) := ⟨_, rfl⟩
      have K9 : Blk w9 q13 69 #[.int .i64 vk, .int .i64 0, .int .i64 vn, .int .i64 vt, .string vb, .int .i64 ve, .int .i64 s0, .int .i64 s1, .int .i64 s2, .int .i64 s3, .int .i64 s4, .int .i64 s5] := by rw [hw9, ← hq13]; exact Blk.new _ _ _
      have b9 : Below wr.heap.size wr w9 := by rw [hw9]; exact Below.alloc (Below.refl _ _) (Nat.le_refl _) _
      have HW9 := Lib.hid hw9
      have HQ13 := Lib.hid hq13
      have HM9 := Lib.hid (HM.out.later b9)
      have HB9 := Lib.hid (HBw.out.up b9)
      clear hw9 hq13 b9
      go_upto_region 5 with fail
      rw [← HW9.out, HQ13.out]
      clear d hr
      have d := K9.at12
      have hr := Below.refl w9.heap.size w9
      have hst : opsN (L.take (k + 1)) = (opsN (L.take k) || vk == 2) := by
        rw [List.take_add_one, HV.out]
        simp only [Option.toList_some]
        rw [opsN_snoc]
      have HST := Lib.hid hst
      clear hst
      by_cases h2 : vk = 2
      · subst h2
        obtain ⟨on, hon⟩ : ∃ on, on = opsN (L.take k) := ⟨_, rfl⟩
        rw [← hon] at HM9 HST
        have HON := Lib.hid hon
        clear hon
        have hz := zero_int w9
        cases on
        · obtain ⟨nn, hnn, hown⟩ := HM9.out
          go_upto_region 9 with (at_lookup; refine wpList_lookup_own_ok_int _ rfl _ _ 57 rfl 3 3 .i64 int_key Tryz.underlying57 Tryz.underlying3 hz mm nn (mapD false 0) rfl hown _ (.int .i64 0) rfl key0 ?_; intro c hat hwc; rw [mapD_has]; obtain rfl : c = 0 := (lit_inj ((atKey_on false).symm.trans hat)).symm)
          clear hz
          go_wp2_with (at_mapUpdate; refine wpList_mapUpdate_in _ rfl _ _ _ 57 rfl 3 3 int_key Tryz.underlying57 (plainElem Tryz.prog 3) mm nn (mapD false 0) rfl hown (by unfold maxLen; omega) _ _ (.int .i64 0) rfl rfl key0 (.lit (.int .i64 0)) [] (plainElem_int Tryz.underlying3 rfl) ?_; intro w10 hown3 ht3)
          have F3 := foot_map ht3
          rw [mapD_put] at hown3
          have M10 : Hid (MapI w10 mm (mapD (opsN (L.take (k + 1))) 0)) := Lib.hid (by rw [HST.out]; exact MapI.of hown3 (mapD_le _ _))
          have B10 : Hid (Below w.heap.size w w10) := Lib.hid (F3.upB HB9.out (fun i hi => by rw [hi, ← HMM.out]; exact Nat.le_refl _) (Nat.le_refl _))
          clear d hr F3 hown3 ht3 hown
          have hr := Below.refl w10.heap.size w10
          go_wp2_with fail
          go_roundw
          case rel => exact ⟨k + 1, rfl, by go_num, by omega, M10, B10⟩
          case measure => simp [intOf]; omega
        · obtain ⟨nn, hnn, hown⟩ := HM9.out
          have M10 : Hid (MapI w9 mm (mapD (opsN (L.take (k + 1))) 0)) := Lib.hid (by rw [HST.out]; exact HM9.out)
          go_wp2_with (at_lookup; refine wpList_lookup_own_ok_int _ rfl _ _ 57 rfl 3 3 .i64 int_key Tryz.underlying57 Tryz.underlying3 hz mm nn (mapD true 0) rfl hown _ (.int .i64 0) rfl key0 ?_; intro c hat hwc; rw [mapD_has]; obtain rfl : c = 0 := (lit_inj ((atKey_on true).symm.trans hat)).symm)
          go_roundw
          case rel => exact ⟨k + 1, rfl, by go_num, by omega, M10, HB9⟩
          case measure => simp [intOf]; omega
      · have n2 : (vk == 2) = false := ne_b h2
        have M10 : Hid (MapI w9 mm (mapD (opsN (L.take (k + 1))) 0)) := Lib.hid (by rw [HST.out, n2, Bool.or_false]; exact HM9.out)
        clear HST
        go_wp2_with fail
        go_roundw
        case rel => exact ⟨k + 1, rfl, by go_num, by omega, M10, HB9⟩
        case measure => simp [intOf]; omega
    · have e1 : ¬ (k : Int) < (n : Int) := by omega
      obtain rfl : k = n := by omega
      have M1 : Hid (MapI wr mm (mapD true (stF 0 (L.take 0)))) := Lib.hid (by
        have := HM.out
        rw [List.take_of_length_le (by rw [← HN.out]; exact Nat.le_refl _), HO.out] at this
        exact this)
      have B1 := HBw
      clear HM HBw hlt hk
      obtain ⟨wo, hwo⟩ : ∃ wo : World, wo = wr := ⟨_, rfl⟩
      rw [← hwo] at M1 B1
      rw [← hwo]
      clear hwo
      have hr := Below.refl wo.heap.size wo
      go_wp2_with fail
      clear hr
      go_loopw [42] (fun iv wr => ∃ j : Nat, iv = .int .i64 j ∧ j ≤ k ∧ Hid (MapI wr mm (mapD true (stF 0 (L.take j)))) ∧ Hid (Below w.heap.size w wr)) (fun iv _ => k - (intOf iv).toNat)
      case atStart => exact ⟨0, rfl, Nat.zero_le _, M1, B1⟩
      case round =>
        clear M1 B1
        obtain ⟨j, rfl, hj, HM, HBw⟩ := hrel
        by_cases hlt : j < k
        · have e1 : (j : Int) < (k : Int) := by omega
          obtain ⟨v, hv⟩ : ∃ v, L[j]? = some v := ⟨L[j]'(by have := HN.out; omega), List.getElem?_eq_getElem _⟩
          obtain ⟨vk, vi, vn, vt, vb, ve, s0, s1, s2, s3, s4, s5⟩ := v
          have hvm := HL.out _ (List.mem_of_getElem? hv)
          simp only at hvm
          obtain ⟨hvi, hv9⟩ := hvm
          subst hvi
          have n9 : (vk == 9) = false := ne_b hv9
          have d : ∀ w', Below wr.heap.size wr w' → w'.cell? ⟨g, j * 12, none⟩ = some (.int .i64 vk) ∧ w'.cell? ⟨g, j * 12 + 1, none⟩ = some (.int .i64 0) ∧ w'.cell? ⟨g, j * 12 + 2, none⟩ = some (.int .i64 vn) ∧ w'.cell? ⟨g, j * 12 + 3, none⟩ = some (.int .i64 vt) ∧ w'.cell? ⟨g, j * 12 + 4, none⟩ = some (.string vb) ∧ w'.cell? ⟨g, j * 12 + 5, none⟩ = some (.int .i64 ve) ∧ w'.cell? ⟨g, j * 12 + 6, none⟩ = some (.int .i64 s0) ∧ w'.cell? ⟨g, j * 12 + 7, none⟩ = some (.int .i64 s1) ∧ w'.cell? ⟨g, j * 12 + 8, none⟩ = some (.int .i64 s2) ∧ w'.cell? ⟨g, j * 12 + 9, none⟩ = some (.int .i64 s3) ∧ w'.cell? ⟨g, j * 12 + 10, none⟩ = some (.int .i64 s4) ∧ w'.cell? ⟨g, j * 12 + 11, none⟩ = some (.int .i64 s5) := fun w' hb => (HE.out.later (HBw.out.up hb)).cell j _ hv
          have HV := Lib.hid hv
          clear hv hv9
          have hr := Below.refl wr.heap.size wr
          obtain ⟨q13, hq13⟩ : ∃ q, wr.heap.size = q := ⟨_, rfl⟩
          obtain ⟨w9, hw9⟩ : ∃ w9, w9 = wr.alloc (.cells #[.int .i64 vk, .int .i64 0, .int .i64 vn, .int .i64 vt, .string vb, .int .i64 ve, .int .i64 s0, .int .i64 s1, .int .i64 s2, .int .i64 s3, .int .i64 s4, .int .i64 s5] 69) := ⟨_, rfl⟩
          have K9 : Blk w9 q13 69 #[.int .i64 vk, .int .i64 0, .int .i64 vn, .int .i64 vt, .string vb, .int .i64 ve, .int .i64 s0, .int .i64 s1, .int .i64 s2, .int .i64 s3, .int .i64 s4, .int .i64 s5] := by rw [hw9, ← hq13]; exact Blk.new _ _ _
          have b9 : Below wr.heap.size wr w9 := by rw [hw9]; exact Below.alloc (Below.refl _ _) (Nat.le_refl _) _
          have HW9 := Lib.hid hw9
          have HQ13 := Lib.hid hq13
          have HM9 := Lib.hid (HM.out.later b9)
          have HB9 := Lib.hid (HBw.out.up b9)
          clear hw9 hq13 b9
          go_upto_region 16 with fail
          rw [← HW9.out, HQ13.out]
          clear d hr
          have d := K9.at12
          have hr := Below.refl w9.heap.size w9
          have hw5 : (Lit.int IntKind.i64 s5).wf = true := HS.out _ (List.mem_of_getElem? HV.out)
          have HW5 := Lib.hid hw5
          clear hw5
          have hst : stF 0 (L.take (j + 1)) = if vk = 8 then s5 else stF 0 (L.take j) := by
            rw [List.take_add_one, HV.out]
            simp only [Option.toList_some]
            rw [stF_snoc]
          have HST := Lib.hid hst
          clear hst
          obtain ⟨sv, hsv⟩ : ∃ sv, sv = stF 0 (L.take j) := ⟨_, rfl⟩
          rw [← hsv] at HM9 HST
          have HSV := Lib.hid hsv
          clear hsv
          obtain ⟨nn, hnn, hown⟩ := HM9.out
          have hz := zero_int w9
          by_cases h8 : vk = 8
          · subst h8
            go_upto_region 18 with (at_lookup; refine wpList_lookup_own_ok_int _ rfl _ _ 57 rfl 3 3 .i64 int_key Tryz.underlying57 Tryz.underlying3 hz mm nn (mapD true sv) rfl hown _ (.int .i64 0) rfl key0 ?_; intro c hat hwc; rw [mapD_has]; obtain rfl : sv = c := lit_inj ((atKey_v sv).symm.trans hat))
            clear hz
            go_wp2_with (at_mapUpdate; refine wpList_mapUpdate_in _ rfl _ _ _ 57 rfl 3 3 int_key Tryz.underlying57 (plainElem Tryz.prog 3) mm nn (mapD true sv) rfl hown (by unfold maxLen; omega) _ _ (.int .i64 0) rfl rfl key0 (.lit (.int .i64 s5)) [] (plainElem_int Tryz.underlying3 HW5.out) ?_; intro w10 hown3 ht3)
            have F3 := foot_map ht3
            rw [mapD_put] at hown3
            have M10 : Hid (MapI w10 mm (mapD true (stF 0 (L.take (j + 1))))) := Lib.hid (by rw [HST.out, if_pos rfl]; exact MapI.of hown3 (mapD_le _ _))
            have B10 : Hid (Below w.heap.size w w10) := Lib.hid (F3.upB HB9.out (fun i hi => by rw [hi, ← HMM.out]; exact Nat.le_refl _) (Nat.le_refl _))
            clear d hr F3 hown3 ht3 hown
            have hr := Below.refl w10.heap.size w10
            go_wp2_with fail
            go_roundw
            case rel => exact ⟨j + 1, by go_num, by omega, M10, B10⟩
            case measure => simp [intOf]; omega
          · have n8 : (vk == 8) = false := ne_b h8
            have M10 : Hid (MapI w9 mm (mapD true (stF 0 (L.take (j + 1))))) := Lib.hid (by rw [HST.out, if_neg h8]; exact HM9.out)
            clear HST h8
            go_wp2_with (at_lookup; refine wpList_lookup_own_ok_int _ rfl _ _ 57 rfl 3 3 .i64 int_key Tryz.underlying57 Tryz.underlying3 hz mm nn (mapD true sv) rfl hown _ (.int .i64 0) rfl key0 ?_; intro c hat hwc; rw [mapD_has]; obtain rfl : sv = c := lit_inj ((atKey_v sv).symm.trans hat))
            go_roundw
            case rel => exact ⟨j + 1, by go_num, by omega, M10, HB9⟩
            case measure => simp [intOf]; omega
        · have e1 : ¬ (j : Int) < (k : Int) := by omega
          obtain rfl : j = k := by omega
          have M10 : Hid (MapI wr mm (mapD true (stF 0 L))) := Lib.hid (by
            have := HM.out
            rw [List.take_of_length_le (by rw [← HN.out]; exact Nat.le_refl _)] at this
            exact this)
          have hr := Below.refl wr.heap.size wr
          go_wp2_with fail
          go_ret2
          exact ⟨mm, rfl, M10.out, HBw.out⟩
end Go.Proofs.YtbhgmccaecmpjaaGreat
