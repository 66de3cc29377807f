/-
  Contracts of package heap, second part: an entry is set, taken away, found due.
  Conditions: the blocks are known.
-/
import Derived.Test.YtbhgmccaecmpjaaGreatW09
import Derived.Laws.ResultCell
namespace Go.Proofs.YtbhgmccaecmpjaaGreat
set_option linter.unusedVariables false
set_option linter.unusedSimpArgs false
open Go.RowKit Go.ChangeMaps

theorem Grew.refl (lv : Value) (w : World) : Grew lv lv w := fun _ h => .inl h
theorem Grew.eq {lv lv' : Value} {w : World} (h : lv'.ownBlock = lv.ownBlock) : Grew lv lv' w := fun g hg => .inl (h ▸ hg)
theorem Grew.trans {a b c : Value} {w w' : World} (h : Grew a b w) (k : Grew b c w') (hs : w.heap.size ≤ w'.heap.size) : Grew a c w := fun g hg => by
  rcases k g hg with hk | hk
  · exact h g hk
  · exact .inr (Nat.le_trans hs hk)
/-- The entry is gone: the slice is cut. -/
theorem HeaR.cutL {w : World} {x wh n g cap : Nat} {t p : Int} (h : HeaR w x wh (.slice (some ⟨g, 0, none⟩) 1 cap) n (some t) p) : HeaR (w.setCell ⟨x, 0, none⟩ (.slice (some ⟨g, 0, none⟩) 0 cap)) x wh (.slice (some ⟨g, 0, none⟩) 0 cap) n none p := by
  refine ⟨?_, h.whA.far (p := ⟨x, 0, none⟩) (Ne.symm h.d.1) _, ?_, h.d⟩
  · have := h.blk.set_ 0 (.slice (some ⟨g, 0, none⟩) 0 cap)
    simpa using this
  · rcases h.row with ⟨hc, _⟩ | ⟨g', cap', cur, hv, hb, h1, h2, h3, h4⟩
    · cases hc
    · cases hv
      exact .inr ⟨g, cap, cur, rfl, hb.far (p := ⟨x, 0, none⟩) (fun e => h.d.2.1 (congrArg some e)) _, h1, h2, h3, fun t ht => by cases ht⟩
set_option maxRecDepth 100000 in
set_option maxHeartbeats 4000000 in
theorem heCutI {w : World} {x wh n : Nat} {lv : Value} {t : Int} (h : Hea w x wh lv n (some t)) : Calls Tryz.prog 58 #[.pointer (some ⟨x, 0, none⟩), .int .i64 0] w fun e w' => e = .returned (.tuple #[]) ∧ ∃ lv', Hea w' x wh lv' n none ∧ lv'.ownBlock = lv.ownBlock ∧ Foot (heF x wh lv) w w' := by
  obtain ⟨g, cap, rfl, hc1, hgx, hgw, hgl, dg, -⟩ := h.one
  have hn := h.whA.2
  have hn1 : (0 : Int) < (n : Int) := by omega
  have hn2 : 0 < n := hn.1
  have d := h.blk.at2
  have hr := Below.refl w.heap.size w
  have HH := Lib.hid h
  have hxw : x ≠ wh := h.d.1
  clear h
  go_enter Tryz.func58, Tryz.ntmps58
  go_upto_region 1 with fail
  refine wp_region_later_tail w.heap.size 13 (by kernel_rfl) (by kernel_rfl) ?_
  simp only [List.take_succ_cons, List.take_zero, List.drop_succ_cons, List.drop_zero]
  have hu : ∀ u : Later w.heap.size w, Below w.heap.size w u.world := Later.below
  repeat (go_big_quiet_step ((fail)))
  refine wpQuiet_nil ?_
  intro w1 b1
  have dg1 : ∀ w', Below w1.heap.size w1 w' → w'.cell? ⟨g, 0, none⟩ = some (.int .i64 t) ∧ w'.cell? ⟨g, 1, none⟩ = some (.int .i64 0) ∧ ∀ i, w'.frozen? ⟨g, i, none⟩ = false := fun w' hb => dg w' (b1.up hb)
  have H1 := HH.out.later b1
  have dw := H1.whA.at_
  clear hu d dg hr
  have d := H1.blk.at2
  have hr := Below.refl w1.heap.size w1
  obtain ⟨w2, hw2⟩ : ∃ w2, w2 = (w1.setCell ⟨wh, 0, none⟩ (.int .i64 (-1))).alloc (.cells #[.int .i64 t, .int .i64 0] 100) := ⟨_, rfl⟩
  have H1a := H1.here (-1)
  have b2 : Below (w1.setCell ⟨wh, 0, none⟩ (.int .i64 (-1))).heap.size (w1.setCell ⟨wh, 0, none⟩ (.int .i64 (-1))) w2 := by rw [hw2]; exact Below.alloc (Below.refl _ _) (Nat.le_refl _) _
  have H2 := H1a.later b2
  have F2 : Foot (heF x wh (.slice (some ⟨g, 0, none⟩) 1 cap)) w w2 := (foot_set _ (Foot.later b1) wh 0 (.inr (.inl rfl)) (.int .i64 (-1))).up b2
  have HW2 := Lib.hid hw2
  clear hw2
  go_upto_region 3 with fail
  rw [← HW2.out]
  clear d dw dg1 hr H1a H1 b2
  have d := H2.blk.at2
  have hr := Below.refl w2.heap.size w2
  go_wp2_with fail
  go_end0
  exact ⟨rfl, _, H2.cutL, rfl, foot_set _ F2 x 0 (.inl rfl) _⟩
theorem heCut {w : World} {x wh n : Nat} {lv : Value} {t : Int} (h : Hea w x wh lv n (some t)) : Calls Tryz.prog 107 #[.pointer (some ⟨x, 0, none⟩), .int .i64 0] w fun e w' => e = .returned (.bool true) ∧ ∃ lv', Hea w' x wh lv' n none ∧ lv'.ownBlock = lv.ownBlock ∧ Foot (heF x wh lv) w w' := by
  have FM := Lib.hid (heMay h)
  have FC := Lib.hid (heCutI h)
  have hn := h.whA.2
  have hn1 : (0 : Int) < (n : Int) := by omega
  have hn2 : 0 < n := hn.1
  have d := h.blk.at2
  have dw := h.whA.at_
  simp only [plI, Option.isSome_some, if_true] at dw
  have hr := Below.refl w.heap.size w
  clear h
  go_enter Tryz.func107, Tryz.ntmps107
  go_wp2_with fail
  refine FM.out.mono ?_; rintro e w1 ⟨rfl, rfl⟩
  go_wp2_with fail
  refine FC.out.mono ?_; rintro e w1 ⟨rfl, lv', h1, e1, f1⟩
  go_wp2_with fail
  go_ret
  exact ⟨rfl, lv', h1, e1, f1⟩
theorem heCutNo {w : World} {x wh n : Nat} {lv : Value} (h : Hea w x wh lv n none) : Calls Tryz.prog 107 #[.pointer (some ⟨x, 0, none⟩), .int .i64 0] w fun e w' => e = .returned (.bool false) ∧ w = w' := by
  have FM := Lib.hid (heMay h)
  have hn := h.whA.2
  have hn1 : (0 : Int) < (n : Int) := by omega
  have hn2 : 0 < n := hn.1
  have d := h.blk.at2
  have dw := h.whA.at_
  simp only [plI, Option.isSome_none, Bool.false_eq_true, if_false] at dw
  have hr := Below.refl w.heap.size w
  clear h
  go_enter Tryz.func107, Tryz.ntmps107
  go_wp2_with fail
  refine FM.out.mono ?_; rintro e w1 ⟨rfl, rfl⟩
  go_wp2_with fail
  go_ret
  exact ⟨rfl, rfl⟩

/-- append of one element onto a row of the call's own, met alone. -/
theorem wp_append1 {P : Program} {e te : TypeId} {k B : Nat} {z : Value} {bytes : Nat} {o : Oper} {a : Act} {w : World} {K : Act → World → Prop} {Q : Exit → Act → World → Prop}
    (infoE : (P.info? e).map (fun i => (i.zero, i.size, i.bytes)) = some (some z, k, bytes)) (hz : z.cells.size = k) (hk : 0 < k) (hby : bytes ≤ 1000) (hte : P.underlying te = some (.slice e))
    (s x : Operand) (hop : o.op = Op.call { callee := Callee.builtin Builtin.append, args := #[s, x], argTypes := #[te, te] }) (v : Value) (n : Nat) (xs : List Value) (hs : a.eval s = v) (h : ORow e k B w v n xs)
    (q : Nat) (hx : a.eval x = .slice (some ⟨q, 0, none⟩) 1 1) (news : List Value) (hl : news.length = k) (hq : ∀ j u, news[j]? = some u → w.cell? ⟨q, j, none⟩ = some u) (h1 : ∀ u ∈ news, u.oneCell' = true) (hm : n ≤ 1000000) (hB : B ≤ w.heap.size)
    (hK : ∀ ao cap w', ORow e k B w' (.slice ao (n + 1) cap) (n + 1) (xs ++ news) → w.grownBy w' v.ownBlock → Grew v (.slice ao (n + 1) cap) w → K (a.put o.dst (.slice ao (n + 1) cap)) w') : Oper.wp P o a w K Q := by
  obtain ⟨i0, hi, hz0, hz1, hz2⟩ := info_parts infoE
  have hbb : (n + 1) * bytes ≤ 1000001 * 1000 := Nat.mul_le_mul (by omega) hby
  obtain ⟨v', w', hr, h2, h3, h4, h5⟩ := run_append_own_at (P := P) w B te o.type e i0 z k bytes hte hi hz0 hz1 hz2 hz hk v n xs h ⟨q, 0, none⟩ 1 1 news (by omega) (fun j u hj => by rw [Addr.add_lit, Nat.zero_add]; exact hq j u hj) h1 (by unfold maxLen; omega) (by omega) hB
  obtain ⟨ao, cap, rfl, _⟩ := orow_form h2
  unfold Oper.wp execOp
  simp only [hop, resolve, invoke, builtin, Sem.run_bind, Sem.run_pure, Result.andThen_ok, List.map_toArray, List.map_cons, List.map_nil, hs, hx, hr]
  exact hK ao cap w' h2 h3 (fun g hg => h5.imp (fun e => by rw [← e, hg]) (fun e => by rw [hg] at e; cases e; exact Nat.le_refl _))
theorem info_entry : (Tryz.prog.info? 100).map (fun i => (i.zero, i.size, i.bytes)) = some (some (.agg #[.int .i64 0, .int .i64 0]), 2, 16) := by kernel_rfl
set_option maxRecDepth 100000 in
set_option maxHeartbeats 4000000 in
theorem heSetNN {w : World} {x wh n : Nat} {lv : Value} (h : Hea w x wh lv n none) : Calls Tryz.prog 65 #[.pointer (some ⟨x, 0, none⟩), .int .i64 0, .int .i64 9223372036854775807] w fun e w' => e = .returned (.bool true) ∧ Below w.heap.size w w' := by
  have FM := Lib.hid (heMay h)
  have FO := Lib.hid (tOwn 9223372036854775807 w)
  have hn := h.whA.2
  have hn1 : (0 : Int) < (n : Int) := by omega
  have hn2 : 0 < n := hn.1
  have d := h.blk.at2
  have dw := h.whA.at_
  simp only [plI, Option.isSome_none, Bool.false_eq_true, if_false] at dw
  have hr := Below.refl w.heap.size w
  have e1 : ownT 9223372036854775807 = 9223372036854775807 := by decide
  rw [e1] at FO
  obtain ⟨w0, hw0⟩ : ∃ w0, w0 = w.alloc (.cells #[.int .i64 9223372036854775807, .int .i64 0] 100) := ⟨_, rfl⟩
  have b0 : Below w.heap.size w w0 := by rw [hw0]; exact Below.alloc (Below.refl _ _) (Nat.le_refl _) _
  have HW0 := Lib.hid hw0
  clear h hw0 e1
  go_enter Tryz.func65, Tryz.ntmps65
  go_wp2_with fail
  refine FM.out.mono ?_; rintro e w1 ⟨rfl, rfl⟩
  go_wp2_with fail
  refine FO.out.mono ?_; rintro e w1 ⟨rfl, rfl⟩
  go_upto_region 4 with fail
  rw [← HW0.out]
  go_wp2_with fail
  go_ret
  exact ⟨rfl, b0⟩
set_option maxRecDepth 100000 in
set_option maxHeartbeats 4000000 in
theorem heSetSN {w : World} {x wh n : Nat} {lv : Value} {t : Int} (h : Hea w x wh lv n (some t)) : Calls Tryz.prog 65 #[.pointer (some ⟨x, 0, none⟩), .int .i64 0, .int .i64 9223372036854775807] w fun e w' => e = .returned (.bool true) ∧ ∃ lv', Hea w' x wh lv' n none ∧ lv'.ownBlock = lv.ownBlock ∧ Foot (heF x wh lv) w w' := by
  have FM := Lib.hid (heMay h)
  have FO := Lib.hid (tOwn 9223372036854775807 w)
  have hn := h.whA.2
  have hn1 : (0 : Int) < (n : Int) := by omega
  have hn2 : 0 < n := hn.1
  have e1 : ownT 9223372036854775807 = 9223372036854775807 := by decide
  rw [e1] at FO
  obtain ⟨w0, hw0⟩ : ∃ w0, w0 = w.alloc (.cells #[.int .i64 9223372036854775807, .int .i64 0] 100) := ⟨_, rfl⟩
  have b0 : Below w.heap.size w w0 := by rw [hw0]; exact Below.alloc (Below.refl _ _) (Nat.le_refl _) _
  have HW0 := Lib.hid hw0
  have H0 := h.later b0
  have d := H0.blk.at2
  have dw := H0.whA.at_
  simp only [plI, Option.isSome_some, if_true] at dw
  have hr := Below.refl w0.heap.size w0
  have FC := Lib.hid (heCutI H0)
  clear h hw0 e1 H0
  go_enter Tryz.func65, Tryz.ntmps65
  go_wp2_with fail
  refine FM.out.mono ?_; rintro e w1 ⟨rfl, rfl⟩
  go_wp2_with fail
  refine FO.out.mono ?_; rintro e w1 ⟨rfl, rfl⟩
  go_upto_region 4 with fail
  rw [← HW0.out]
  go_wp2_with fail
  refine FC.out.mono ?_; rintro e w1 ⟨rfl, lv', h1, e1, f1⟩
  go_wp2_with fail
  go_ret
  exact ⟨rfl, lv', h1, e1, (Foot.later b0).trans f1⟩

theorem Foot.trans' {F G : Nat → Prop} {a w w' : World} (h : Foot F a w) (k : Foot G w w') (hG : ∀ i, i < a.heap.size → G i → F i) : Foot F a w' := h.then k hG
theorem Foot.row {F : Nat → Prop} {a w w' : World} {v : Value} (h : Foot F a w) (g : w.grownBy w' v.ownBlock) (hv : ∀ g, v.ownBlock = some g → F g ∨ a.heap.size ≤ g) : Foot F a w' :=
  ⟨g.os.trans h.os, g.tape.trans h.tape, g.output.trans h.output, Nat.le_trans h.size g.size, fun i hi hn => (g.block i (Nat.lt_of_lt_of_le hi h.size) (fun e => (hv i e.symm).elim hn (fun e => by omega))).trans (h.block i hi hn)⟩
theorem Blk.grownO {w w' : World} {b : Nat} {t : TypeId} {cs : Array Value} {v : Value} (h : Blk w b t cs) (g : w.grownBy w' v.ownBlock) (hv : v.ownBlock ≠ some b) : Blk w' b t cs := (g.block b h.lt (fun e => hv e.symm)).trans h
set_option maxRecDepth 100000 in
set_option maxHeartbeats 4000000 in
theorem heSetN {w : World} {x wh n : Nat} {lv : Value} {t : Int} (h : Hea w x wh lv n none) (ht : 0 ≤ t) (htn : t ≠ 9223372036854775807) : Calls Tryz.prog 65 #[.pointer (some ⟨x, 0, none⟩), .int .i64 0, .int .i64 t] w fun e w' => e = .returned (.bool true) ∧ ∃ lv', Hea w' x wh lv' n (some t) ∧ Grew lv lv' w ∧ Foot (heF x wh lv) w w' := by
  have FM := Lib.hid (heMay h)
  have FO := Lib.hid (tOwn t w)
  have hn := h.whA.2
  have hn1 : (0 : Int) < (n : Int) := by omega
  have hn2 : 0 < n := hn.1
  have e1 : ownT t = t := by unfold ownT; rw [if_neg (by omega)]
  rw [e1] at FO
  have e2 : (t == 9223372036854775807) = false := ne_b htn
  obtain ⟨b, hb⟩ : ∃ b, w.heap.size = b := ⟨_, rfl⟩
  obtain ⟨w0, hw0⟩ : ∃ w0, w0 = w.alloc (.cells #[.int .i64 t, .int .i64 0] 100) := ⟨_, rfl⟩
  have b0 : Below w.heap.size w w0 := by rw [hw0]; exact Below.alloc (Below.refl _ _) (Nat.le_refl _) _
  have K0 : Blk w0 b 100 #[.int .i64 t, .int .i64 0] := by rw [hw0, ← hb]; exact Blk.new _ _ _
  have H0 := h.later b0
  have l0 := h.lt
  have hbx : b ≠ x := fun e => by have := l0 x (.inl rfl); omega
  have hbw : b ≠ wh := fun e => by have := l0 wh (.inr (.inl rfl)); omega
  have hbl : lv.ownBlock ≠ some b := fun e => by have := l0 b (.inr (.inr e)); omega
  have HW0 := Lib.hid hw0
  have HBB := Lib.hid hb
  have HH := Lib.hid H0
  have HK := Lib.hid K0
  have d := H0.blk.at2
  have db := K0.at2
  have dw := H0.whA.at_
  simp only [plI, Option.isSome_none, Bool.false_eq_true, if_false] at dw
  have hr := Below.refl w0.heap.size w0
  have B0 := Lib.hid b0
  have HBX := Lib.hid hbx
  have HBW := Lib.hid hbw
  have HBL := Lib.hid hbl
  clear h hw0 e1 H0 K0 l0 b0 hb htn hbl
  go_enter Tryz.func65, Tryz.ntmps65
  go_wp2_with fail
  refine FM.out.mono ?_; rintro e w1 ⟨rfl, rfl⟩
  go_wp2_with fail
  refine FO.out.mono ?_; rintro e w1 ⟨rfl, rfl⟩
  go_upto_region 4 with fail
  rw [← HW0.out, HBB.out]
  go_upto_region 12 with fail
  have D : Below w0.heap.size w0 w0.drew := (Below.refl _ _).drew
  have MKS : Hid (∀ w', Below w0.heap.size w0 w' → w'.cell? ⟨x, 0, none⟩ = some lv ∧ w'.cell? ⟨b, 0, none⟩ = some (.int .i64 t) ∧ w'.cell? ⟨b, 1, none⟩ = some (.int .i64 0)) := Lib.hid fun w' hw => ⟨(d w' hw).1, (db w' hw).1, (db w' hw).2.1⟩
  have ba : Below w0.heap.size w0 (w0.alloc (.cells #[.int .i64 t, .int .i64 0] 100)).drew := (Below.alloc (Below.refl _ _) (Nat.le_refl _) _).drew
  clear d db dw hr
  refine wp_region_ordL (S := fun w' => w'.cell? ⟨x, 0, none⟩ = some lv ∧ w'.cell? ⟨b, 0, none⟩ = some (.int .i64 t) ∧ w'.cell? ⟨b, 1, none⟩ = some (.int .i64 0)) [0, 1, 2, 3, 4, 5, 6, 7, 8, 9, 10] 10 (by kernel_rfl) (by kernel_rfl) (by kernel_rfl) (by kernel_rfl) (by kernel_rfl) (by kernel_rfl) (MKS.out _ D) ?_
  simp only [pickL, List.filterMap_cons, List.filterMap_nil, List.getElem?_cons_zero, List.getElem?_cons_succ]
  repeat (refine ordL_take (v := ?_) (by rfl) (by rfl) ?_ ?_; rotate_left; (focus (intro w hSw; (try dsimp only at hSw); go_simp; (try with_reducible rfl))); simp only [Act.put, List.setIfInBounds_toArray, List.set_cons_zero, List.set_cons_succ])
  refine ordL_lone (by rfl) (by rfl) (fun KK hK => ?_)
  try go_simp
  refine hK.out _ _ (.inr (MKS.out _ ba)) ?_
  clear hK KK
  try simp only [Act.put, List.setIfInBounds_toArray, List.set_cons_zero, List.set_cons_succ]
  have K0 := HK.out.later ba
  have H0 := HH.out.later ba
  obtain ⟨w5, hw5⟩ : ∃ w5, w5 = (w0.alloc (.cells #[.int .i64 t, .int .i64 0] 100)).drew := ⟨_, rfl⟩
  have KN : Blk w5 w0.heap.size 100 #[.int .i64 t, .int .i64 0] := by rw [hw5]; exact (Blk.new w0 100 #[.int .i64 t, .int .i64 0]).drew
  rw [← hw5] at K0 H0
  have F5 : Foot (heF x wh lv) w w5 := by rw [hw5]; exact Foot.later (B0.out.up ba)
  have l5 : w0.heap.size < w5.heap.size := KN.lt
  try rw [← hw5]
  refine ordL_lone (by rfl) (by rfl) (fun KK hK => ?_)
  refine wp_append1 info_entry rfl (by decide) (by decide) Tryz.underlying101 (.tmp 54) (.tmp 56) rfl lv 0 [] rfl H0.row.row w0.heap.size rfl [.int .i64 t, .int .i64 0] rfl ?a1 ?a2 (by omega) (Nat.zero_le _) ?a3
  case a1 => intro j u hj; exact (KN.cell j).trans (by simpa using hj)
  case a2 => intro u hu; simp at hu; rcases hu with rfl | rfl <;> rfl
  case a3 =>
  intro ao cap w6 o6 g6 gr6
  have KX6 := H0.blk.grownO g6 H0.d.2.1
  have KW6 : Arr w6 wh 3 n (.int .i64 (-1)) := by
    obtain ⟨⟨cs, hb, h0⟩, r⟩ := H0.whA
    exact ⟨⟨cs, hb.grownO g6 H0.d.2.2, h0⟩, r⟩
  have KB6 := K0.grownO g6 HBL.out
  refine hK.out _ _ (.inr ⟨(KX6.cell 0).trans rfl, (KB6.cell 0).trans rfl, (KB6.cell 1).trans rfl⟩) ?_
  clear hK KK
  try simp only [Act.put, List.setIfInBounds_toArray, List.set_cons_zero, List.set_cons_succ]
  have dX := KX6.at2
  have hr := Below.refl w6.heap.size w6
  repeat (refine ordL_take (v := ?_) (by rfl) (by rfl) ?_ ?_; rotate_left; (focus (intro w hSw; (try dsimp only at hSw); go_simp; (try with_reducible rfl))); simp only [Act.put, List.setIfInBounds_toArray, List.set_cons_zero, List.set_cons_succ])
  refine ordL_lone (by rfl) (by rfl) (fun KK hK => ?_)
  try go_simp
  refine hK.out _ _ (.inl rfl) ?_
  clear hK KK
  try simp only [Act.put, List.setIfInBounds_toArray, List.set_cons_zero, List.set_cons_succ]
  refine ordL_done ?_
  have E6 := EntR.of o6
  have hx6 : (Value.slice ao 1 cap).ownBlock ≠ some x := fun e => by
    rcases gr6 x e with e | e
    · exact H0.d.2.1 e
    · have := H0.blk.lt; omega
  have hw6 : (Value.slice ao 1 cap).ownBlock ≠ some wh := fun e => by
    rcases gr6 wh e with e | e
    · exact H0.d.2.2 e
    · have := H0.whA.lt; omega
  have H7 : HeaR (w6.setCell ⟨x, 0, none⟩ (.slice ao 1 cap)) x wh (.slice ao 1 cap) n (some t) (-1) := by
    refine ⟨?_, KW6.far (p := ⟨x, 0, none⟩) (Ne.symm H0.d.1) _, E6.set (p := ⟨x, 0, none⟩) hx6 _, H0.d.1, hx6, hw6⟩
    have := KX6.set_ 0 (.slice ao 1 cap)
    simpa using this
  have F7 : Foot (heF x wh lv) w (w6.setCell ⟨x, 0, none⟩ (.slice ao 1 cap)) := foot_set _ (F5.row g6 (fun g hg => .inl (.inr (.inr hg)))) x 0 (.inl rfl) _
  have G7 : Grew lv (.slice ao 1 cap) w := fun g hg => (gr6 g hg).imp id (fun e => by have := B0.out.size; omega)
  obtain ⟨w7, hw7⟩ : ∃ w7, w7 = w6.setCell ⟨x, 0, none⟩ (.slice ao 1 cap) := ⟨_, rfl⟩
  rw [← hw7] at H7 F7
  try rw [← hw7]
  clear dX hr KX6 KW6 KB6 o6 g6 gr6 E6 hw7
  have d := H7.blk.at2
  have hr := Below.refl w7.heap.size w7
  have FU := Lib.hid (heUp H7)
  go_wp2_with fail
  refine FU.out.mono ?_; rintro e w8 ⟨rfl, h8, f8⟩
  go_wp2_with fail
  go_ret
  refine ⟨rfl, _, h8, G7, F7.trans' f8 ?_⟩
  rintro i hi (rfl | rfl | e)
  · exact .inl rfl
  · exact .inr (.inl rfl)
  · rcases G7 i e with e | e
    · exact .inr (.inr e)
    · omega
end Go.Proofs.YtbhgmccaecmpjaaGreat

namespace Go.Proofs.YtbhgmccaecmpjaaGreat
set_option linter.unusedVariables false
set_option linter.unusedSimpArgs false
open Go.RowKit Go.ChangeMaps

set_option maxRecDepth 100000 in
set_option maxHeartbeats 4000000 in
theorem heSetS {w : World} {x wh n : Nat} {lv : Value} {t t0 : Int} (h : Hea w x wh lv n (some t0)) (ht : 0 ≤ t) (htn : t ≠ 9223372036854775807) : Calls Tryz.prog 65 #[.pointer (some ⟨x, 0, none⟩), .int .i64 0, .int .i64 t] w fun e w' => e = .returned (.bool true) ∧ Hea w' x wh lv n (some t) ∧ Foot (heF x wh lv) w w' := by
  have FM := Lib.hid (heMay h)
  have FO := Lib.hid (tOwn t w)
  have hn := h.whA.2
  have hn1 : (0 : Int) < (n : Int) := by omega
  have hn2 : 0 < n := hn.1
  have e1 : ownT t = t := by unfold ownT; rw [if_neg (by omega)]
  rw [e1] at FO
  have e2 : (t == 9223372036854775807) = false := ne_b htn
  obtain ⟨b, hb⟩ : ∃ b, w.heap.size = b := ⟨_, rfl⟩
  obtain ⟨w0, hw0⟩ : ∃ w0, w0 = w.alloc (.cells #[.int .i64 t, .int .i64 0] 100) := ⟨_, rfl⟩
  have b0 : Below w.heap.size w w0 := by rw [hw0]; exact Below.alloc (Below.refl _ _) (Nat.le_refl _) _
  have K0 : Blk w0 b 100 #[.int .i64 t, .int .i64 0] := by rw [hw0, ← hb]; exact Blk.new _ _ _
  have H0 := h.later b0
  obtain ⟨g, cap, rfl, hc1, hgx, hgw, hgl, dg, -⟩ := H0.one
  have HW0 := Lib.hid hw0
  have HBB := Lib.hid hb
  have HH := Lib.hid H0
  have HK := Lib.hid K0
  have d := H0.blk.at2
  have db := K0.at2
  have dw := H0.whA.at_
  simp only [plI, Option.isSome_some, if_true] at dw
  have hr := Below.refl w0.heap.size w0
  have B0 := Lib.hid b0
  clear h hw0 e1 H0 K0 b0 hb htn
  go_enter Tryz.func65, Tryz.ntmps65
  go_wp2_with fail
  refine FM.out.mono ?_; rintro e w1 ⟨rfl, rfl⟩
  go_wp2_with fail
  refine FO.out.mono ?_; rintro e w1 ⟨rfl, rfl⟩
  go_upto_region 4 with fail
  rw [← HW0.out, HBB.out]
  go_upto_region 5 with fail
  refine wp_region_later_tail w0.heap.size 7 (by kernel_rfl) (by kernel_rfl) ?_
  simp only [List.take_succ_cons, List.take_zero, List.drop_succ_cons, List.drop_zero]
  have hu : ∀ u : Later w0.heap.size w0, Below w0.heap.size w0 u.world := Later.below
  repeat (go_big_quiet_step ((fail)))
  refine wpQuiet_nil ?_
  intro w1 b1
  have H1 := HH.out.later b1
  have dg1 : ∀ w', Below w1.heap.size w1 w' → w'.cell? ⟨g, 0, none⟩ = some (.int .i64 t0) ∧ w'.cell? ⟨g, 1, none⟩ = some (.int .i64 0) ∧ ∀ i, w'.frozen? ⟨g, i, none⟩ = false := fun w' hb => dg w' (b1.up hb)
  obtain ⟨g', cap', hgg, -, -, -, -, -, hput1⟩ := H1.one
  cases hgg
  have H2 := hput1 t
  have F2 : Foot (heF x wh (.slice (some ⟨g, 0, none⟩) 1 cap)) w ((w1.setCell ⟨g, 0, none⟩ (.int .i64 t)).setCell ⟨g, 1, none⟩ (.int .i64 0)) := foot_set2 (Foot.later (B0.out.up b1)) (.inr (.inr rfl)) _ _
  obtain ⟨w2, hw2⟩ : ∃ w2, w2 = (w1.setCell ⟨g, 0, none⟩ (.int .i64 t)).setCell ⟨g, 1, none⟩ (.int .i64 0) := ⟨_, rfl⟩
  have HW2 := Lib.hid hw2
  rw [← hw2] at H2 F2
  clear hw2 hput1 hu dg d db dw hr H1
  have hr := Below.refl w1.heap.size w1
  have FS := Lib.hid (heSettle H2)
  go_upto_region 6 with fail
  rw [← HW2.out]
  clear dg1 hr
  have hr := Below.refl w2.heap.size w2
  go_wp2_with fail
  refine FS.out.mono ?_; rintro e w3 ⟨rfl, h3, f3⟩
  go_wp2_with fail
  go_ret
  exact ⟨rfl, h3, F2.trans f3⟩

theorem heMinNo {w : World} {x wh n : Nat} {lv : Value} (h : Hea w x wh lv n none) : Calls Tryz.prog 56 #[.pointer (some ⟨x, 0, none⟩)] w fun e w' => e = .returned (.tuple #[.agg #[.int .i64 0, .int .i64 0], .bool false]) ∧ Below w.heap.size w w' := by
  obtain ⟨ao, cap, hlv⟩ : ∃ ao cap, lv = .slice ao 0 cap := by
    rcases h.row with ⟨rfl, _⟩ | ⟨g, cap, cur, rfl, _⟩
    · exact ⟨_, _, rfl⟩
    · exact ⟨_, _, rfl⟩
  subst hlv
  have ba : Below w.heap.size w (w.alloc (.cells #[.int .i64 0, .int .i64 0] 100)) := Below.alloc (Below.refl _ _) (Nat.le_refl _) _
  have d := h.blk.at2
  have hr := Below.refl w.heap.size w
  have hx := h.blk.lt
  clear h
  go_enter Tryz.func56, Tryz.ntmps56
  go_wp2_with fail
  (try simp only [Exit.inBlock, Exit.then])
  refine bodyPost_ret (v := .tuple #[.agg #[.int .i64 0, .int .i64 0], .bool false]) ?_ rfl ⟨rfl, by (repeat' (first | exact Below.refl _ _ | assumption | apply Below.drew | apply below_drewN | refine Below.setCell ?_ (by first | assumption | (simp; done) | (simp <;> omega)) _ | refine Below.alloc ?_ (by first | exact Nat.le_refl _ | assumption | (simp; done) | (simp <;> omega)) _))⟩
  rw [results_cell_tmp rfl]
  go_simp
theorem heMin {w : World} {x wh n : Nat} {lv : Value} {t : Int} (h : Hea w x wh lv n (some t)) : Calls Tryz.prog 56 #[.pointer (some ⟨x, 0, none⟩)] w fun e w' => e = .returned (.tuple #[.agg #[.int .i64 t, .int .i64 0], .bool true]) ∧ Below w.heap.size w w' := by
  obtain ⟨g, cap, rfl, hc1, hgx, hgw, hgl, dg, -⟩ := h.one
  have ba : Below w.heap.size w (w.alloc (.cells #[.int .i64 0, .int .i64 0] 100)) := Below.alloc (Below.refl _ _) (Nat.le_refl _) _
  have d := h.blk.at2
  have hr := Below.refl w.heap.size w
  have hx := h.blk.lt
  clear h
  go_enter Tryz.func56, Tryz.ntmps56
  go_wp2_with fail
  (try simp only [Exit.inBlock, Exit.then])
  refine bodyPost_ret (v := .tuple #[.agg #[.int .i64 t, .int .i64 0], .bool true]) ?_ rfl ⟨rfl, by (repeat' (first | exact Below.refl _ _ | assumption | apply Below.drew | apply below_drewN | refine Below.setCell ?_ (by first | assumption | (simp; done) | (simp <;> omega)) _ | refine Below.alloc ?_ (by first | exact Nat.le_refl _ | assumption | (simp; done) | (simp <;> omega)) _))⟩
  rw [results_cell_tmp rfl]
  go_simp
end Go.Proofs.YtbhgmccaecmpjaaGreat
