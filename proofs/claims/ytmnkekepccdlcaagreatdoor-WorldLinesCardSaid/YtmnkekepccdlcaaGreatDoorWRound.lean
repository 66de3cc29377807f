/-
  A round in memory of its own, somewhat cut: what the law's Round gives.
  Conditions: the round's rows lie in the world.
-/
import Derived.Test.YtmnkekepccdlcaaGreatDoorWMk
import Derived.Test.YtmnkekepccdlcaaGreatDoorWgG
import Derived.Deep.RegionLaw
import Derived.Deep.CutBlock
namespace Go.Proofs.YtmnkekepccdlcaaGreatDoor
set_option linter.unusedVariables false
set_option linter.unusedSimpArgs false
open Go.RowKit

/-- What is read of a round that is being made, in every later world. -/
theorem Mk.at_ {B b : Nat} {w : World} {h : Hd} {r : Rd} (m : Mk B b w h r) : ∀ w', Below w.heap.size w w' → w'.cell? ⟨b, 0, none⟩ = some (.int .i64 r.ticks) ∧ w'.cell? ⟨b, 1, none⟩ = some (.slice h.oa r.opens.length h.oc) ∧ w'.cell? ⟨b, 2, none⟩ = some (.slice h.fa r.offers.length h.fc) ∧ w'.cell? ⟨b, 3, none⟩ = some (.slice h.pa r.reports.length h.pc) ∧ w'.cell? ⟨b, 4, none⟩ = some (.int .i64 r.drain) ∧ w'.cell? ⟨b, 5, none⟩ = some (.bool r.abort) ∧ ∀ i, w'.frozen? ⟨b, i, none⟩ = false := by
  have k := m.blk
  unfold rC at k
  exact k.at6
/-- A law's round under way: the argument's cells, the result's, and the round that is made. -/
structure Rg (W : World) (c0 c1 : Array Value) (w : World) (h : Hd) (r : Rd) : Prop where
  k0 : Blk w W.heap.size 59 c0
  k1 : Blk w (W.heap.size + 1) 59 c1
  rd : Mk W.heap.size (W.heap.size + 2) w h r
  bel : Below W.heap.size W w
section
variable {W w w' w7 : World} {c0 c1 : Array Value} {h h' : Hd} {r r' : Rd} {t : TypeId} {k n : Nat} {v0 : Value} {xs : List Value}
theorem Rg.later (m : Rg W c0 c1 w h r) (hb : Below w.heap.size w w') : Rg W c0 c1 w' h r := ⟨m.k0.later hb, m.k1.later hb, m.rd.later hb, m.bel.up hb⟩
theorem Rg.grow (m : Rg W c0 c1 w h r) (ho : ORow t k W.heap.size w v0 n xs) (ht : t ≠ 59) (g : w.grownBy w7 v0.ownBlock) (hn : RIn W.heap.size w7 h' r') (j : Nat) (x : Value) (hx : (rC h r).set j x = rC h' r') :
    Rg W c0 c1 (w7.setCell ⟨W.heap.size + 2, j, none⟩ x) h' r' :=
  ⟨m.k0.aside ho ht g (by omega) j x, m.k1.aside ho ht g (by omega) j x, m.rd.grow ho ht g hn j x hx, below_grow m.bel ho g (Nat.le_refl _) m.bel.size (by omega) j x⟩
end
section
variable {W w w' w7 : World} {c0 c1 : Array Value} {h h' : Hd} {r r' : Rd} {t : TypeId} {k n : Nat} {v0 : Value} {xs : List Value} {o : Obj}
/-- A row has grown: what is read of the round that is made. -/
theorem Rg.seven (m : Rg W c0 c1 w h r) (ho : ORow t k W.heap.size (w.alloc o) v0 n xs) (ht : t ≠ 59) (g : (w.alloc o).grownBy w7 v0.ownBlock) : ∀ w', Below w7.heap.size w7 w' → w'.cell? ⟨W.heap.size + 2, 0, none⟩ = some (.int .i64 r.ticks) ∧ w'.cell? ⟨W.heap.size + 2, 1, none⟩ = some (.slice h.oa r.opens.length h.oc) ∧ w'.cell? ⟨W.heap.size + 2, 2, none⟩ = some (.slice h.fa r.offers.length h.fc) ∧ w'.cell? ⟨W.heap.size + 2, 3, none⟩ = some (.slice h.pa r.reports.length h.pc) ∧ w'.cell? ⟨W.heap.size + 2, 4, none⟩ = some (.int .i64 r.drain) ∧ w'.cell? ⟨W.heap.size + 2, 5, none⟩ = some (.bool r.abort) ∧ ∀ i, w'.frozen? ⟨W.heap.size + 2, i, none⟩ = false := by
  have k := m.rd.blk.alloc o
  have k7 := k.grown g (fun e => orow_off ho k ht e.symm)
  unfold rC at k7
  exact k7.at6
theorem Rg.eight (m : Rg W c0 c1 w h r) (ho : ORow t k W.heap.size (w.alloc o) v0 n xs) (ht : t ≠ 59) (g : (w.alloc o).grownBy w7 v0.ownBlock) (hn : RIn W.heap.size w7 h' r') (j : Nat) (x : Value) (hx : (rC h r).set j x = rC h' r') :
    Rg W c0 c1 (w7.setCell ⟨W.heap.size + 2, j, none⟩ x) h' r' := (m.later ((Below.refl _ _).alloc (Nat.le_refl _) o)).grow ho ht g hn j x hx
end
/-- What is made is stored as the result. -/
theorem Rg.done {W w : World} {c0 : Array Value} {x0 x1 x2 x3 x4 x5 : Value} {h : Hd} {r : Rd} (m : Rg W c0 #[x0, x1, x2, x3, x4, x5] w h r) (w' : World) (hw : ((((((w.setCell ⟨W.heap.size + 1, 0, none⟩ (.int .i64 r.ticks)).setCell ⟨W.heap.size + 1, 1, none⟩ (.slice h.oa r.opens.length h.oc)).setCell ⟨W.heap.size + 1, 2, none⟩ (.slice h.fa r.offers.length h.fc)).setCell ⟨W.heap.size + 1, 3, none⟩ (.slice h.pa r.reports.length h.pc)).setCell ⟨W.heap.size + 1, 4, none⟩ (.int .i64 r.drain)).setCell ⟨W.heap.size + 1, 5, none⟩ (.bool r.abort)) = w') :
    Blk w' (W.heap.size + 1) 59 (rC h r).toArray ∧ RIn W.heap.size w' h r ∧ Below W.heap.size W w' := by
  subst hw
  have e1 := (((((m.k1.set_ 0 (.int .i64 r.ticks)).set_ 1 (.slice h.oa r.opens.length h.oc)).set_ 2 (.slice h.fa r.offers.length h.fc)).set_ 3 (.slice h.pa r.reports.length h.pc)).set_ 4 (.int .i64 r.drain)).set_ 5 (.bool r.abort)
  have hl : W.heap.size ≤ W.heap.size + 1 := Nat.le_succ _
  have g := only_setCell (p := ⟨W.heap.size + 1, 5, none⟩) (only_setCell (p := ⟨W.heap.size + 1, 4, none⟩) (only_setCell (p := ⟨W.heap.size + 1, 3, none⟩) (only_setCell (p := ⟨W.heap.size + 1, 2, none⟩) (only_setCell (p := ⟨W.heap.size + 1, 1, none⟩) (only_setCell (p := ⟨W.heap.size + 1, 0, none⟩) (only_below (Below.refl w.heap.size w) (some (W.heap.size + 1))) (.inl rfl) (.int .i64 r.ticks)) (.inl rfl) (.slice h.oa r.opens.length h.oc)) (.inl rfl) (.slice h.fa r.offers.length h.fc)) (.inl rfl) (.slice h.pa r.reports.length h.pc)) (.inl rfl) (.int .i64 r.drain)) (.inl rfl) (.bool r.abort)
  refine ⟨by simpa [rC] using e1, m.rd.rin.same fun g2 hg2 => g.block g2 (m.rd.rin.lt hg2).2 fun e => ?_, m.bel.trans (only_to g m.bel.size hl)⟩
  have := Option.some.inj e
  subst this
  exact m.rd.rin.off m.k1 (by decide) (by decide) (by decide) hg2
theorem rg_start (W : World) (h : Hd) (r : Rd) : Rg W (rC h r).toArray (rC hd0 rd0).toArray (((W.alloc (.cells (rC h r).toArray 59)).alloc (.cells (rC hd0 rd0).toArray 59)).alloc (.cells (rC hd0 { rd0 with ticks := r.ticks, drain := r.drain, abort := r.abort }).toArray 59)) hd0 { rd0 with ticks := r.ticks, drain := r.drain, abort := r.abort } := by
  have k0 := Blk.new W 59 (rC h r).toArray
  have k1 := Blk.new (W.alloc (.cells (rC h r).toArray 59)) 59 (rC hd0 rd0).toArray
  have k2 := Blk.new ((W.alloc (.cells (rC h r).toArray 59)).alloc (.cells (rC hd0 rd0).toArray 59)) 59 (rC hd0 { rd0 with ticks := r.ticks, drain := r.drain, abort := r.abort }).toArray
  have e1 : (W.alloc (.cells (rC h r).toArray 59)).heap.size = W.heap.size + 1 := by simp
  have e2 : ((W.alloc (.cells (rC h r).toArray 59)).alloc (.cells (rC hd0 rd0).toArray 59)).heap.size = W.heap.size + 2 := by simp
  rw [e1] at k1
  rw [e2] at k2
  exact ⟨(k0.alloc _).alloc _, k1.alloc _, ⟨k2, World.ownsRow_nil _ _ _ _, World.ownsRow_nil _ _ _ _, World.ownsRow_nil _ _ _ _⟩, (((Below.refl _ _).alloc (Nat.le_refl _) _).alloc (by simp) _).alloc (by simp; omega) _⟩

set_option maxHeartbeats 8000000 in
set_option maxRecDepth 100000 in
theorem eRound (h : Hd) (r : Rd) (w : World) (ha : RAt w h r) (hlen : RLen r) : Calls Tryz.prog 36 #[.agg (rC h r).toArray] w fun e w' => ∃ h', e = .returned (.agg (rC h' (cutR r)).toArray) ∧ RIn w.heap.size w' h' (cutR r) ∧ Below w.heap.size w w' := by
  obtain ⟨w0, hw0⟩ : ∃ w0, (((w.alloc (.cells (rC h r).toArray 59)).alloc (.cells (rC hd0 rd0).toArray 59)).alloc (.cells (rC hd0 { rd0 with ticks := r.ticks, drain := r.drain, abort := r.abort }).toArray 59)) = w0 := ⟨_, rfl⟩
  have G0 : Rg w (rC h r).toArray (rC hd0 rd0).toArray w0 hd0 { rd0 with ticks := r.ticks, drain := r.drain, abort := r.abort } := by rw [← hw0]; exact rg_start w h r
  have HW0 := Lib.hid hw0
  have A1 := Lib.hid ha.os
  have A2 := Lib.hid ha.fs
  have A3 := Lib.hid ha.ps
  obtain ⟨ls1, ls2, ls3, ls4⟩ := hlen
  unfold maxLen at ls1 ls2 ls3
  obtain ⟨oa, oc, fa, fc, pa, pc⟩ := h
  simp only at A1 A2 A3
  have GH := Lib.hid G0
  clear hw0 ha ls4 G0
  simp only [rC, hd0, rd0, List.length_nil] at HW0
  unfold rC
  simp only
  go_enter Tryz.func36, Tryz.ntmps36
  go_upto_region 2 with fail
  rw [HW0.out]
  go_upto_block 0 with fail
  go_cut [] (fun wx => ∃ h', Hid (Rg w (rC ⟨oa, oc, fa, fc, pa, pc⟩ r).toArray (rC hd0 rd0).toArray wx h' { rd0 with ticks := r.ticks, drain := r.drain, abort := r.abort, opens := r.opens.take 4 }))
  case first =>
    go_wp2_with fail
    go_loopw [4] (fun iv wr => ∃ (k : Nat) (h' : Hd), iv = .int .i64 k ∧ k ≤ r.opens.length ∧ k ≤ 4 ∧ Hid (Rg w (rC ⟨oa, oc, fa, fc, pa, pc⟩ r).toArray (rC hd0 rd0).toArray wr h' { rd0 with ticks := r.ticks, drain := r.drain, abort := r.abort, opens := r.opens.take k })) (fun iv _ => r.opens.length - (intOf iv).toNat)
    case atStart => exact ⟨0, _, rfl, Nat.zero_le _, Nat.zero_le _, GH⟩
    case round =>
      obtain ⟨k, h', rfl, hk, hk4, hG⟩ := hrel
      have e0 : (0 : Int) ≤ (k : Int) := by omega
      have k0 := hG.out.k0
      unfold rC at k0
      have dq := k0.at6
      have hr := Below.refl wr.heap.size wr
      clear k0
      by_cases hlt : k < r.opens.length
      · have e1 : (k : Int) < (r.opens.length : Int) := by omega
        by_cases h4 : k < 4
        · have e2 : (k : Int) < 4 := by omega
          obtain ⟨g, off, rfl, d0⟩ := A1.out k hlt
          have hbw := hG.out.bel
          have d : ∀ w', Below wr.heap.size wr w' → w'.cell? ⟨g, off + k, none⟩ = some (.int .i64 r.opens[k]) := fun w' hw => d0 w' (hbw.up hw)
          have HT := Lib.hid (List.take_succ_eq_append_getElem hlt)
          have hkl : (r.opens.take k).length = k := by rw [List.length_take]; omega
          generalize r.opens[k] = x at *
          have dm := hG.out.rd.at_
          simp only [rd0, hkl] at dm
          have G1 := hG.out.later (Below.refl wr.heap.size wr).drew
          have hos := G1.rd.rin.os
          simp only [hkl] at hos
          have G2 := Lib.hid G1
          have hr5 : Below wr.heap.size wr (wr.alloc (.cells #[.int .i64 x] 3)) := (Below.refl _ _).alloc (Nat.le_refl _) _
          clear d0 hG G1
          go_upto_region 5 with fail
          go_region_law (first
            | (refine step_append info_int rfl (by decide) (by decide) Tryz.underlying55 rfl (.tmp 27) (.tmp 33) rfl (.slice h'.oa k h'.oc) _ _ rfl (World.ownsRow.alloc hos _) wr.heap.size rfl [.int .i64 x] rfl ?_ ?_ (by omega) (by have := hbw.size; simp; omega) ?_; (intro j u hj; exact ((Blk.new wr.drew 3 #[.int .i64 x]).cell j).trans (by simpa using hj)); (intro u hu; simp at hu; subst hu; rfl); (intro ao2 cap2 w7 o7 g7; have d7 := G2.out.seven (World.ownsRow.alloc hos _) (by decide) g7; simp only [rd0, hkl] at d7; have hr7 := Below.refl w7.heap.size w7)))
          all_goals (
            have HX := Lib.hid (G2.out.eight (World.ownsRow.alloc hos _) (by decide) g7 (((G2.out.later ((Below.refl _ _).alloc (Nat.le_refl _) _)).rd.rin).openG hkl g7 o7) 1 (.slice ao2 (k + 1) cap2) (by
              have e1 : (r.opens.take k ++ [x]).length = k + 1 := by rw [List.length_append, hkl]; rfl
              simp [rC, e1, rd0]))
            clear dm d dq hr hr5 hos o7 g7 hbw d7 hr7
            go_wp2_with fail
            go_roundw
            case rel => exact ⟨k + 1, _, by go_num, by omega, by omega, by rw [HT.out]; exact HX⟩
            case measure => simp [intOf]; omega)
        · have e2 : ¬ (k : Int) < 4 := by omega
          obtain rfl : k = 4 := by omega
          go_wp2_with fail
          go_meet
          exact ⟨h', hG⟩
      · have e1 : ¬ (k : Int) < (r.opens.length : Int) := by omega
        have HK : Hid (r.opens.take k = r.opens.take 4) := Lib.hid (by rw [List.take_of_length_le (by omega), List.take_of_length_le (by omega)])
        go_wp2_with fail
        go_meet
        exact ⟨h', by rw [← HK.out]; exact hG⟩
  case rest =>
    obtain ⟨h1, hG1⟩ := hcut
    clear GH A1
    go_upto_block 2 with fail
    go_cut [] (fun wx => ∃ h', Hid (Rg w (rC ⟨oa, oc, fa, fc, pa, pc⟩ r).toArray (rC hd0 rd0).toArray wx h' { rd0 with ticks := r.ticks, drain := r.drain, abort := r.abort, opens := r.opens.take 4, offers := (r.offers.take 6).map cutO }))
    case first =>
      go_wp2_with fail
      go_loopw [5] (fun iv wr => ∃ (k : Nat) (h' : Hd), iv = .int .i64 k ∧ k ≤ r.offers.length ∧ k ≤ 6 ∧ Hid (Rg w (rC ⟨oa, oc, fa, fc, pa, pc⟩ r).toArray (rC hd0 rd0).toArray wr h' { rd0 with ticks := r.ticks, drain := r.drain, abort := r.abort, opens := r.opens.take 4, offers := (r.offers.take k).map cutO })) (fun iv _ => r.offers.length - (intOf iv).toNat)
      case atStart => exact ⟨0, _, rfl, Nat.zero_le _, Nat.zero_le _, hG1⟩
      case round =>
        obtain ⟨k, h', rfl, hk, hk4, hG⟩ := hrel
        clear hG1
        have e0 : (0 : Int) ≤ (k : Int) := by omega
        have k0 := hG.out.k0
        unfold rC at k0
        have dq := k0.at6
        have hr := Below.refl wr.heap.size wr
        clear k0
        by_cases hlt : k < r.offers.length
        · have e1 : (k : Int) < (r.offers.length : Int) := by omega
          by_cases h4 : k < 6
          · have e2 : (k : Int) < 6 := by omega
            obtain ⟨g, off, rfl, d0⟩ := A2.out k hlt
            have hbw := hG.out.bel
            have d := fun w' (hw : Below wr.heap.size wr w') => d0 w' (hbw.up hw)
            have HT := Lib.hid (List.take_succ_eq_append_getElem hlt)
            have hkl : ((r.offers.take k).map cutO).length = k := by rw [List.length_map, List.length_take]; omega
            generalize r.offers[k] = x at *
            obtain ⟨xi, xb, xe⟩ := x
            simp only at d
            clear d0
            go_wp2_with fail
            refine (xCut _ 20 _).mono ?_; rintro e wz ⟨rfl, rfl⟩
            go_upto_region 11 with fail
            obtain ⟨w2, hw2⟩ : ∃ w2, wr.alloc (.cells #[.int .i64 xi, .string (cutT xb 20), .bool xe] 93) = w2 := ⟨_, rfl⟩
            have kz : Blk w2 wr.heap.size 93 #[.int .i64 xi, .string (cutT xb 20), .bool xe] := by rw [← hw2]; exact Blk.new _ _ _
            have b2 : Below wr.heap.size wr w2 := by rw [← hw2]; exact (Below.refl _ _).alloc (Nat.le_refl _) _
            rw [hw2]
            have G2 := Lib.hid (hG.out.later b2)
            have dz := kz.at3
            have dm := G2.out.rd.at_
            have hos := G2.out.rd.rin.fs
            simp only [hkl] at hos
            have hk2 : ((r.offers.take k).map cutO).length = k := hkl
            simp only [rd0, hkl] at dm
            have hr2 := Below.refl w2.heap.size w2
            have hbs := G2.out.bel.size
            clear hw2 dq hr d hG b2 kz hbw
            go_wp2_with (at_builtin; refine wpList_append_elem info_offer rfl (by decide) (by decide) Tryz.underlying56 _ rfl _ _ rfl w.heap.size _ _ _ rfl (World.ownsRow.alloc hos _) w2.heap.size rfl [.int .i64 xi, .string (cutT xb 20), .bool xe] rfl ?ta1 ?ta2 ?tm ?ta3 ?ta4)
            case ta1 => intro j u hj; exact ((Blk.new w2 93 #[.int .i64 xi, .string (cutT xb 20), .bool xe]).cell j).trans (by simpa using hj)
            case ta2 => intro u hu; simp at hu; rcases hu with rfl | rfl | rfl <;> rfl
            case tm => omega
            case ta3 => simp; omega
            case ta4 =>
              intro ao2 cap2 w7 o7 g7
              simp only [← List.map_take] at o7
              have d7 := G2.out.seven (World.ownsRow.alloc hos _) (by decide) g7
              simp only [rd0, hkl] at d7
              have hr7 := Below.refl w7.heap.size w7
              have HX := Lib.hid (G2.out.eight (h' := { h' with fa := ao2, fc := cap2 }) (World.ownsRow.alloc hos _) (by decide) g7 (((G2.out.later ((Below.refl _ _).alloc (Nat.le_refl _) _)).rd.rin).offerG (o := ⟨xi, cutT xb 20, xe⟩) hk2 g7 o7) 2 (.slice ao2 (k + 1) cap2) (by
                have e1 : ((r.offers.take k).map cutO ++ [(⟨xi, cutT xb 20, xe⟩ : Off)]).length = k + 1 := by rw [List.length_append, hk2]; rfl
                simp only [rC, rd0, e1]
                rfl))
              have HM : Hid ((r.offers.take (k + 1)).map cutO = (r.offers.take k).map cutO ++ [⟨xi, cutT xb 20, xe⟩]) := Lib.hid (by rw [HT.out, List.map_append]; rfl)
              clear dm dz hr2 hos o7 g7 hbs hkl hk2
              go_wp2_with fail
              go_roundw
              case rel => exact ⟨k + 1, _, by go_num, by omega, by omega, by rw [HM.out]; exact HX⟩
              case measure => simp [intOf]; omega
          · have e2 : ¬ (k : Int) < 6 := by omega
            obtain rfl : k = 6 := by omega
            go_wp2_with fail
            go_meet
            exact ⟨h', hG⟩
        · have e1 : ¬ (k : Int) < (r.offers.length : Int) := by omega
          have HK : Hid (r.offers.take k = r.offers.take 6) := Lib.hid (by rw [List.take_of_length_le (by omega), List.take_of_length_le (by omega)])
          go_wp2_with fail
          go_meet
          exact ⟨h', by rw [← HK.out]; exact hG⟩
    case rest =>
      obtain ⟨h2, hG2⟩ := hcut
      clear hG1 A2
      go_upto_block 4 with fail
      go_cut [] (fun wx => ∃ h', Hid (Rg w (rC ⟨oa, oc, fa, fc, pa, pc⟩ r).toArray (rC hd0 rd0).toArray wx h' (cutR r)))
      case first =>
        go_wp2_with fail
        go_loopw [7] (fun iv wr => ∃ (k : Nat) (h' : Hd), iv = .int .i64 k ∧ k ≤ r.reports.length ∧ k ≤ 8 ∧ Hid (Rg w (rC ⟨oa, oc, fa, fc, pa, pc⟩ r).toArray (rC hd0 rd0).toArray wr h' { cutR r with reports := r.reports.take k })) (fun iv _ => r.reports.length - (intOf iv).toNat)
        case atStart => exact ⟨0, _, rfl, Nat.zero_le _, Nat.zero_le _, hG2⟩
        case round =>
          obtain ⟨k, h', rfl, hk, hk4, hG⟩ := hrel
          clear hG2
          have e0 : (0 : Int) ≤ (k : Int) := by omega
          have k0 := hG.out.k0
          unfold rC at k0
          have dq := k0.at6
          have hr := Below.refl wr.heap.size wr
          clear k0
          by_cases hlt : k < r.reports.length
          · have e1 : (k : Int) < (r.reports.length : Int) := by omega
            by_cases h4 : k < 8
            · have e2 : (k : Int) < 8 := by omega
              obtain ⟨g, off, rfl, d0⟩ := A3.out k hlt
              have hbw := hG.out.bel
              have d := fun w' (hw : Below wr.heap.size wr w') => d0 w' (hbw.up hw)
              have HT := Lib.hid (List.take_succ_eq_append_getElem hlt)
              have hkl : (r.reports.take k).length = k := by rw [List.length_take]; omega
              generalize r.reports[k] = x at *
              obtain ⟨xi, xr, xw, xa⟩ := x
              simp only at d
              obtain ⟨C, hC⟩ : ∃ C, cutR r = C := ⟨_, rfl⟩
              rw [hC] at hG
              have dm := hG.out.rd.at_
              simp only [hkl] at dm
              have G1 := hG.out.later (Below.refl wr.heap.size wr).drew
              have hos := G1.rd.rin.ps
              simp only [hkl] at hos
              have G2 := Lib.hid G1
              have hr5 : Below wr.heap.size wr (wr.alloc (.cells #[.int .i64 xi, .bool xr, .bool xw, .int .i64 xa] 95)) := (Below.refl _ _).alloc (Nat.le_refl _) _
              have HC := Lib.hid hC
              clear d0 hG G1 hC
              go_upto_region 15 with fail
              go_region_law (first
                | (refine step_append info_report rfl (by decide) (by decide) Tryz.underlying57 rfl (.tmp 74) (.tmp 80) rfl (.slice h'.pa k h'.pc) _ _ rfl (World.ownsRow.alloc hos _) wr.heap.size rfl [.int .i64 xi, .bool xr, .bool xw, .int .i64 xa] rfl ?_ ?_ (by omega) (by have := hbw.size; simp; omega) ?_; (intro j u hj; exact ((Blk.new wr.drew 95 #[.int .i64 xi, .bool xr, .bool xw, .int .i64 xa]).cell j).trans (by simpa using hj)); (intro u hu; simp at hu; rcases hu with rfl | rfl | rfl | rfl <;> rfl); (intro ao2 cap2 w7 o7 g7; have d7 := G2.out.seven (World.ownsRow.alloc hos _) (by decide) g7; simp only [hkl] at d7; have hr7 := Below.refl w7.heap.size w7)))
              all_goals (
                have HX := Lib.hid (G2.out.eight (h' := { h' with pa := ao2, pc := cap2 }) (World.ownsRow.alloc hos _) (by decide) g7 (((G2.out.later ((Below.refl _ _).alloc (Nat.le_refl _) _)).rd.rin).reportG (o := ⟨xi, xr, xw, xa⟩) hkl g7 o7) 3 (.slice ao2 (k + 1) cap2) (by
                  have e1 : (r.reports.take k ++ [(⟨xi, xr, xw, xa⟩ : Rep)]).length = k + 1 := by rw [List.length_append, hkl]; rfl
                  simp only [rC, e1]
                  rfl))
                clear dm d dq hr hr5 hos o7 g7 hbw d7 hr7 hkl
                go_wp2_with fail
                go_roundw
                case rel => exact ⟨k + 1, _, by go_num, by omega, by omega, by rw [HT.out, HC.out]; exact HX⟩
                case measure => simp [intOf]; omega)
            · have e2 : ¬ (k : Int) < 8 := by omega
              obtain rfl : k = 8 := by omega
              go_wp2_with fail
              go_meet
              exact ⟨h', hG⟩
          · have e1 : ¬ (k : Int) < (r.reports.length : Int) := by omega
            have HK : Hid (r.reports.take k = r.reports.take 8) := Lib.hid (by rw [List.take_of_length_le (by omega), List.take_of_length_le (by omega)])
            go_wp2_with fail
            go_meet
            exact ⟨h', by rw [HK.out] at hG; exact hG⟩
      case rest =>
        obtain ⟨h3, hG3⟩ := hcut
        clear hG2 A3
        obtain ⟨C, hC⟩ : ∃ C, cutR r = C := ⟨_, rfl⟩
        rw [hC] at hG3
        have HC := Lib.hid hC
        clear hC
        generalize wc = w9 at *
        have dm := hG3.out.rd.at_
        have G3 := hG3.out
        have k1 := G3.k1
        simp only [rC, hd0, rd0, List.length_nil] at k1 G3
        have dk := k1.at6
        have hr := Below.refl w9.heap.size w9
        have D9 := Lib.hid G3.done
        clear hG3 k1 G3
        obtain ⟨W9, hW9⟩ : ∃ x, ((((((w9.setCell ⟨w.heap.size + 1, 0, none⟩ (.int .i64 C.ticks)).setCell ⟨w.heap.size + 1, 1, none⟩ (.slice h3.oa C.opens.length h3.oc)).setCell ⟨w.heap.size + 1, 2, none⟩ (.slice h3.fa C.offers.length h3.fc)).setCell ⟨w.heap.size + 1, 3, none⟩ (.slice h3.pa C.reports.length h3.pc)).setCell ⟨w.heap.size + 1, 4, none⟩ (.int .i64 C.drain)).setCell ⟨w.heap.size + 1, 5, none⟩ (.bool C.abort)) = x := ⟨_, rfl⟩
        obtain ⟨kk, hri, hbl⟩ := D9.out W9 hW9
        unfold rC at kk
        have HRI := Lib.hid hri
        have HBL := Lib.hid hbl
        have HW9 := Lib.hid hW9
        clear hW9 hri hbl D9
        go_wp2_with fail
        rw [HW9.out]
        exact bodyPost_ret (v := .agg #[.int .i64 C.ticks, .slice h3.oa C.opens.length h3.oc, .slice h3.fa C.offers.length h3.fc, .slice h3.pa C.reports.length h3.pc, .int .i64 C.drain, .bool C.abort]) (by simp [results, Tryz.results36, go_sem, kk.cell]) rfl ⟨h3, by rw [HC.out], by rw [HC.out]; exact HRI.out, HBL.out⟩
end Go.Proofs.YtmnkekepccdlcaaGreatDoor
