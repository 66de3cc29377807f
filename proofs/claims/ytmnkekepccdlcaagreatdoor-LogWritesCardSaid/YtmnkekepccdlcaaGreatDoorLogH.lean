/-
  The words of a line, as the program splits it.
  Conditions: the text is short; the bound of strings.Index stands in its variable.
-/
import Derived.Test.YtmnkekepccdlcaaGreatDoorLogG
import Derived.Test.YtmnkekepccdlcaaGreatDoorRow
namespace Go.Proofs.YtmnkekepccdlcaaGreatDoor
set_option linter.unusedVariables false
set_option linter.unusedSimpArgs false
open Go.RowKit

theorem infoString : (Tryz.prog.info? 9).map (fun i => (i.zero, i.size, i.bytes)) = some (some (.string ⟨#[]⟩), 1, 16) := by kernel_rfl
theorem cells_at {L : List ByteArray} {N i : Nat} {x : ByteArray} (h : L[i]? = some x) : (Lib.cellsOf L N)[i]? = some (.string x) := by
  have hi : i < L.length := (List.getElem?_eq_some_iff.1 h).1
  unfold Lib.cellsOf
  rw [List.getElem?_toArray, List.getElem?_append_left (by simpa using hi), List.getElem?_map, h]
  rfl
theorem bt_data (b : ByteArray) : (⟨b.data.toList.toArray⟩ : ByteArray) = b := by cases b; simp
theorem wl_data {w : World} {g : Nat} {L : List ByteArray} (h : ∀ (i : Nat) (x : ByteArray), L[i]? = some x → w.cell? ⟨g, i, none⟩ = some (.string x)) : WL w g (L.map (·.data.toList)) := fun i x hx => by
  rw [List.getElem?_map] at hx
  obtain ⟨b, hb, rfl⟩ := Option.map_eq_some_iff.1 hx
  rw [bt_data]
  exact h i b hb
theorem split_pieces (c : ByteArray) : (Lib.splitB ⟨#[32]⟩ 0 (Lib.countB c ⟨#[32]⟩) c).map (·.data.toList) = Lib.split c.data.toList [32] := by
  rw [Lib.splitB_data]; rfl

theorem splitB_size (sep : ByteArray) : ∀ (k : Nat) (s b : ByteArray), b ∈ Lib.splitB sep 0 k s → b.size ≤ s.size
  | 0, s, b, h => by
    have : b = s := by simpa [Lib.splitB] using h
    rw [this]; exact Nat.le_refl _
  | k + 1, s, b, h => by
    unfold Lib.splitB at h
    split at h
    · have : b = s := by simpa using h
      rw [this]; exact Nat.le_refl _
    · rcases List.mem_cons.1 h with rfl | h
      · rw [ByteArray.size_extract]; omega
      · have := splitB_size sep k _ b h
        rw [ByteArray.size_extract] at this
        omega

abbrev SplitOut (s : ByteArray) (w : World) (e : Ending) (w' : World) : Prop :=
  ∃ g cap, e = .returned (.slice (some ⟨g, 0, none⟩) (splitT s.data.toList).length cap) ∧ WL w' g (splitT s.data.toList) ∧ Below w.heap.size w w'

set_option maxHeartbeats 2000000 in
set_option maxRecDepth 100000 in
theorem lSplit (s : ByteArray) (hs : s.size ≤ 100000) (w : World) (he : EnvL w) : Calls Tryz.prog 67 #[.string s] w (SplitOut s w) := by
  obtain ⟨m, hm⟩ := he.maxl
  have F := Lib.hid (Tryz.strings_SplitN s ⟨#[32]⟩ 3 m w (by omega) hm (by decide) (by decide) (by decide))
  clear he
  have hL : (Lib.splitB ⟨#[32]⟩ 0 (min 3 (s.size + 1) - 1) s).map (·.data.toList) = Lib.splitN s.data.toList [32] 3 := Lib.splitB_data _ _ _ _
  have hle : (Lib.splitB ⟨#[32]⟩ 0 (min 3 (s.size + 1) - 1) s).length ≤ min 3 (s.size + 1) - 1 + 1 := Lib.splitB_length_le _ _ _ _
  have hN : min 3 (s.size + 1) ≤ 3 := Nat.min_le_left _ _
  have hm2 : ∀ b ∈ Lib.splitB ⟨#[32]⟩ 0 (min 3 (s.size + 1) - 1) s, b.size ≤ 100000 := fun b hb => Nat.le_trans (splitB_size _ _ _ _ hb) hs
  generalize min 3 (s.size + 1) = N at *
  generalize Lib.splitB ⟨#[32]⟩ 0 (N - 1) s = L at *
  have hT : splitT s.data.toList = if L.length < 3 ∨ atW (L.map (·.data.toList)) 0 = wRead ∨ atW (L.map (·.data.toList)) 0 = wWrite then L.map (·.data.toList) else (L.map (·.data.toList)).take 2 ++ Lib.split (atW (L.map (·.data.toList)) 2) [32] := by
    unfold splitT
    rw [← hL]
    simp
  have HT := Lib.hid hT
  clear hT hL
  by_cases c3 : L.length < 3
  · have e3 : (L.length : Int) < 3 := by omega
    have HD := Lib.hid (show splitT s.data.toList = L.map (·.data.toList) by rw [HT.out, if_pos (.inl c3)])
    clear HT c3 hle hN hm2
    go_enter Tryz.func67, Tryz.ntmps67
    go_wp2_with fail
    refine F.out.mono ?_; rintro e w1 ⟨rfl, rfl⟩
    go_wp2_with fail
    go_ret
    refine ⟨w.heap.size, N, by rw [HD.out, List.length_map]; rfl, ?_, (Below.refl _ _).alloc (Nat.le_refl _) _⟩
    rw [HD.out]
    exact wl_data fun i x hx => ((Blk.new w 9 _).cell i).trans (cells_at hx)
  · obtain ⟨a, b, c, rfl⟩ : ∃ a b c, L = [a, b, c] := by
      match L, c3, hle, hN with
      | [a, b, c], _, _, _ => exact ⟨a, b, c, rfl⟩
      | [], h, _, _ => exact absurd (by decide) h
      | [_], h, _, _ => exact absurd (by simp) h
      | [_, _], h, _, _ => exact absurd (by simp) h
      | _ :: _ :: _ :: _ :: _, _, h1, h2 => simp at h1; omega
    obtain rfl : N = 3 := by simp at hle; omega
    have hcc := hm2 c (by simp)
    clear hle hN c3 hm2
    have hcells : Lib.cellsOf [a, b, c] 3 = #[.string a, .string b, .string c] := rfl
    rw [hcells] at F
    have HA := Lib.hid (show splitT s.data.toList = if a.data.toList = wRead ∨ a.data.toList = wWrite then [a.data.toList, b.data.toList, c.data.toList] else [a.data.toList, b.data.toList] ++ Lib.split c.data.toList [32] by
      rw [HT.out]
      simp [atW])
    clear HT hcells
    obtain ⟨w1, hw1⟩ : ∃ w1, w.alloc (.cells #[.string a, .string b, .string c] 9) = w1 := ⟨_, rfl⟩
    have k1 : Blk w1 w.heap.size 9 #[.string a, .string b, .string c] := by rw [← hw1]; exact Blk.new _ _ _
    have hb1 : Below w.heap.size w w1 := by rw [← hw1]; exact (Below.refl _ _).alloc (Nat.le_refl _) _
    have hm1 : w1.cell? ⟨0, 0, none⟩ = some (.int .i64 m) := cellE_later hm hb1
    have HW1 := Lib.hid hw1
    have HB := Lib.hid hb1
    have d1 := k1.at3
    have hr := Below.refl w1.heap.size w1
    have K1 := Lib.hid k1
    obtain ⟨g, hg⟩ : ∃ g, w.heap.size = g := ⟨_, rfl⟩
    rw [hg] at d1 K1
    have HG := Lib.hid hg
    have HM := Lib.hid hm1
    clear hw1 hb1 k1 hg hm hm1
    by_cases r1 : a.toList = [114, 101, 97, 100]
    · have HS := Lib.hid (show splitT s.data.toList = [a.data.toList, b.data.toList, c.data.toList] by rw [HA.out, if_pos (.inl (by rw [← Lib.toList_data, r1]; rfl))])
      clear HA
      go_enter Tryz.func67, Tryz.ntmps67
      go_wp2_with fail
      refine F.out.mono ?_; rintro e w2 ⟨rfl, rfl⟩
      rw [HW1.out, HG.out]
      go_wp2_with fail
      go_ret
      refine ⟨g, 3, by rw [HS.out]; rfl, ?_, HB.out⟩
      rw [HS.out]
      exact wl_data (L := [a, b, c]) fun i x hx => (K1.out.cell i).trans (cells_at (N := 3) hx)
    · have f1 := beq_eq_false_iff_ne.2 r1
      by_cases r2 : a.toList = [119, 114, 105, 116, 101]
      · have HS := Lib.hid (show splitT s.data.toList = [a.data.toList, b.data.toList, c.data.toList] by rw [HA.out, if_pos (.inr (by rw [← Lib.toList_data, r2]; rfl))])
        clear HA r1
        go_enter Tryz.func67, Tryz.ntmps67
        go_wp2_with fail
        refine F.out.mono ?_; rintro e w2 ⟨rfl, rfl⟩
        rw [HW1.out, HG.out]
        go_wp2_with fail
        go_ret
        refine ⟨g, 3, by rw [HS.out]; rfl, ?_, HB.out⟩
        rw [HS.out]
        exact wl_data (L := [a, b, c]) fun i x hx => (K1.out.cell i).trans (cells_at (N := 3) hx)
      · have f2 := beq_eq_false_iff_ne.2 r2
        have HS := Lib.hid (show splitT s.data.toList = [a.data.toList, b.data.toList] ++ Lib.split c.data.toList [32] by rw [HA.out, if_neg (by
          rintro (h | h)
          · exact r1 (by rw [Lib.toList_data, h]; rfl)
          · exact r2 (by rw [Lib.toList_data, h]; rfl))])
        clear HA r1 r2
        have F2 := fun (w' : World) (h : w'.cell? ⟨0, 0, none⟩ = some (.int .i64 m)) => Tryz.strings_Split c ⟨#[32]⟩ m w' (by omega) h (by decide)
        have hpl := Lib.splitB_all ⟨#[32]⟩ (by decide) 0 _ c rfl
        have hps := split_pieces c
        have hp0 : Lib.countB c ⟨#[32]⟩ = 0 → Lib.splitB ⟨#[32]⟩ 0 (Lib.countB c ⟨#[32]⟩) c = [c] := fun h => by rw [h]; rfl
        have hcn := Lib.countB_le ⟨#[32]⟩ (by decide) c.size c (Nat.le_refl _)
        generalize Lib.countB c ⟨#[32]⟩ = cn at *
        generalize Lib.splitB ⟨#[32]⟩ 0 cn c = ps at *
        have F3 := Lib.hid F2
        have HP := Lib.hid (And.intro hpl (And.intro hps hp0))
        have HCN := Lib.hid (Nat.le_trans hcn hcc)
        have MK : Hid (∀ w', Below w1.heap.size w1 w' → Below g w w' ∧ w'.cell? ⟨g, 0, none⟩ = some (.string a) ∧ w'.cell? ⟨g, 1, none⟩ = some (.string b) ∧ w'.cell? ⟨g, 2, none⟩ = some (.string c)) := Lib.hid fun w' h => ⟨by rw [← HG.out]; exact HB.out.up h, (d1 w' h).1, (d1 w' h).2.1, (d1 w' h).2.2.1⟩
        clear F2 hpl hps hp0 hcn hcc
        go_enter Tryz.func67, Tryz.ntmps67
        go_wp2_with fail
        refine F.out.mono ?_; rintro e w2 ⟨rfl, rfl⟩
        rw [HW1.out, HG.out]
        go_upto_region 4 with fail
        refine wp_region_lexH (S := (fun w' => Below g w w' ∧ w'.cell? ⟨g, 0, none⟩ = some (.string a) ∧ w'.cell? ⟨g, 1, none⟩ = some (.string b) ∧ w'.cell? ⟨g, 2, none⟩ = some (.string c))) (by kernel_rfl) (by kernel_rfl) (by kernel_rfl) (MK.out _ (by (repeat' (first | exact Below.refl _ _ | assumption | exact And.left (by assumption) | apply bel_alloc | apply Below.drew)))) ?_
        clear d1 hr
        repeat (first | (refine lexH_skip (by rfl) ?_; simp only [Act.put, List.setIfInBounds_toArray, List.set_cons_zero, List.set_cons_succ]) | (refine lexH_take (v := ?_) (by rfl) ?_ ?_; rotate_left; (focus (intro w hSw; (try dsimp only at hSw); go_simp; (try with_reducible rfl))); simp only [Act.put, List.setIfInBounds_toArray, List.set_cons_zero, List.set_cons_succ]) | (refine lexH_call (by rfl) (by rfl) (fun K hK => ?_); go_simp; (first | fail); (try go_wp2_with fail); refine hK.out _ _ (MK.out _ (by (repeat' (first | exact Below.refl _ _ | assumption | exact And.left (by assumption) | apply bel_alloc | apply Below.drew)))) (fun _ => ?_); clear hK; (try simp only [Act.put, List.setIfInBounds_toArray, List.set_cons_zero, List.set_cons_succ])))
        refine lexH_call (by rfl) (by rfl) (fun K hK => ?_)
        go_simp
        go_at_call 52
        refine (F3.out w1.drew HM.out).mono ?_; rintro e w3 ⟨rfl, hw3⟩
        have hb3 : Below w1.heap.size w1 w3 := by rw [hw3]; exact bel_alloc (Below.drew (Below.refl _ _)) _
        have k3 : Blk w3 w1.heap.size 9 (ps.map Value.string).toArray := by rw [hw3]; exact Blk.new _ _ _
        clear hw3
        go_wp2_with fail
        refine hK.out _ _ (MK.out _ hb3) (fun _ => ?_)
        clear hK
        have r3 : Blk w3 g 9 #[.string a, .string b, .string c] := K1.out.later hb3
        have hcn := HCN.out
        have hpl := HP.out.1
        have hbg : Below g w w3 := by rw [← HG.out]; exact HB.out.up hb3
        refine lexH_call (by rfl) (by rfl) (fun K hK => ?_)
        obtain ⟨i0, hi, hz0, hz1, hz2⟩ := info_parts infoString
        refine wp_append_arg (.tmp 23) (.tmp 27) 45 rfl 9 i0 (.string ⟨#[]⟩) 1 16 Tryz.underlying45 hi hz0 hz1 hz2 rfl (by decide) g 0 2 3 [.string a, .string b] rfl rfl ?holds ⟨w1.heap.size, 0, none⟩ (cn + 1) (cn + 1) (ps.map Value.string) rfl (by simp [hpl]) ?hc ?h1c ?hspare (by unfold maxLen; omega) (by omega) ?hroom ?hgrow
        case holds =>
          intro j u hj
          rw [Nat.zero_add]
          refine (r3.cell j).trans ?_
          match j, hj with
          | 0, h => exact h
          | 1, h => exact h
        case hc =>
          intro j u hj
          rw [Addr.add_lit, Nat.zero_add]
          exact (k3.cell j).trans (by simpa using hj)
        case h1c =>
          intro u hu
          obtain ⟨x, -, rfl⟩ := List.mem_map.1 hu
          rfl
        case hspare =>
          intro h j hj
          obtain rfl : cn = 0 := by omega
          obtain rfl : j = 0 := by simp [hpl] at hj; omega
          exact ⟨by rw [r3.cell]; rfl, r3.frozen _⟩
        case hroom =>
          intro h
          obtain rfl : cn = 0 := by omega
          obtain rfl := HP.out.2.2 rfl
          have r4 : Blk (w3.setCell ⟨g, 2, none⟩ (.string c)) g 9 #[.string a, .string b, .string c] := r3.set_ 2 (.string c)
          have hb4 : Below g w (w3.setCell ⟨g, 2, none⟩ (.string c)) := hbg.setCell (p := ⟨g, 2, none⟩) (Nat.le_refl _) _
          have hS : splitT s.data.toList = [a, b, c].map (·.data.toList) := by rw [HS.out, ← HP.out.2.1]; rfl
          have HS2 := Lib.hid hS
          show K _ (w3.setCell ⟨g, 2, none⟩ (.string c))
          generalize w3.setCell ⟨g, 2, none⟩ (.string c) = w4 at *
          refine hK.out _ _ ⟨hb4, r4.cell 0, r4.cell 1, r4.cell 2⟩ (fun _ => ?_)
          clear hK
          simp only [Act.put, List.setIfInBounds_toArray, List.set_cons_zero, List.set_cons_succ]
          repeat (first | (refine lexH_skip (by rfl) ?_; simp only [Act.put, List.setIfInBounds_toArray, List.set_cons_zero, List.set_cons_succ]) | (refine lexH_take (v := ?_) (by rfl) ?_ ?_; rotate_left; (focus (intro w hSw; (try dsimp only at hSw); go_simp; (try with_reducible rfl))); simp only [Act.put, List.setIfInBounds_toArray, List.set_cons_zero, List.set_cons_succ]) | (refine lexH_call (by rfl) (by rfl) (fun K hK => ?_); go_simp; (first | fail); (try go_wp2_with fail); refine hK.out _ _ (MK.out _ (by (repeat' (first | exact Below.refl _ _ | assumption | exact And.left (by assumption) | apply bel_alloc | apply Below.drew)))) (fun _ => ?_); clear hK; (try simp only [Act.put, List.setIfInBounds_toArray, List.set_cons_zero, List.set_cons_succ])))
          refine lexH_done ?_
          go_wp2_with fail
          go_ret
          refine ⟨g, 3, by rw [HS2.out]; rfl, ?_, by rw [HG.out]; exact hb4⟩
          rw [HS2.out]
          exact wl_data (L := [a, b, c]) fun i x hx => (r4.cell i).trans (cells_at (N := 3) hx)
        case hgrow =>
          intro h v' w4 ho hg4
          have hb4 : Below w1.heap.size w1 w4 := hb3.grown hg4 hb3.size (fun k hk => by cases hk)
          have hlen : splitT s.data.toList = (a :: b :: ps).map (·.data.toList) := by rw [HS.out, ← HP.out.2.1]; rfl
          have HS2 := Lib.hid hlen
          have hl : (splitT s.data.toList).length = 2 + (cn + 1) := by rw [hlen]; simp [hpl]; omega
          have HL := Lib.hid hl
          obtain ⟨ao, cap, rfl, -⟩ := orow_form ho
          have HO := Lib.hid ho
          clear hlen hl
          refine hK.out _ _ (MK.out _ hb4) (fun _ => ?_)
          clear hK
          simp only [Act.put, List.setIfInBounds_toArray, List.set_cons_zero, List.set_cons_succ]
          repeat (first | (refine lexH_skip (by rfl) ?_; simp only [Act.put, List.setIfInBounds_toArray, List.set_cons_zero, List.set_cons_succ]) | (refine lexH_take (v := ?_) (by rfl) ?_ ?_; rotate_left; (focus (intro w hSw; (try dsimp only at hSw); go_simp; (try with_reducible rfl))); simp only [Act.put, List.setIfInBounds_toArray, List.set_cons_zero, List.set_cons_succ]) | (refine lexH_call (by rfl) (by rfl) (fun K hK => ?_); go_simp; (first | fail); (try go_wp2_with fail); refine hK.out _ _ (MK.out _ (by (repeat' (first | exact Below.refl _ _ | assumption | exact And.left (by assumption) | apply bel_alloc | apply Below.drew)))) (fun _ => ?_); clear hK; (try simp only [Act.put, List.setIfInBounds_toArray, List.set_cons_zero, List.set_cons_succ])))
          refine lexH_done ?_
          go_wp2_with fail
          go_ret
          obtain ⟨g4, rfl, -, -⟩ := orow_cell HO.out 0 (by simp)
          refine ⟨g4, cap, by rw [HL.out]; rfl, ?_, HB.out.up hb4⟩
          rw [HS2.out]
          refine wl_data fun i x hx => ?_
          obtain ⟨g5, e5, -, hc⟩ := orow_cell HO.out i (by have := (List.getElem?_eq_some_iff.1 hx).1; simp at this ⊢; omega)
          cases e5
          refine (hc _ (Below.refl _ _)).trans ?_
          have : ([Value.string a, Value.string b] ++ ps.map Value.string) = (a :: b :: ps).map Value.string := rfl
          rw [this, List.getElem?_map, hx]
          rfl
end Go.Proofs.YtmnkekepccdlcaaGreatDoor
