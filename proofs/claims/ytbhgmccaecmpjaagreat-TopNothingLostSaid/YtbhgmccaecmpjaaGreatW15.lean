/-
  Contracts of package hold: bytes that are looked through, where all that are held were looked at.
  Conditions: the blocks are known.
-/
import Derived.Test.YtbhgmccaecmpjaaGreatW14
namespace Go.Proofs.YtbhgmccaecmpjaaGreat
set_option linter.unusedVariables false
set_option linter.unusedSimpArgs false
open Go.RowKit

/-- A window's block: so many bytes, so many of them looked at, the patterns' block. -/
structure HolV (w : World) (x : Nat) (bv : Value) (win n seen : Nat) (ap : Value) : Prop where
  blk : ∃ pv, Blk w x 194 #[.int .i64 win, bv, .int .i64 seen, pv, ap]
  form : ∃ ao cap, bv = .slice ao n cap
  wn : 1 ≤ win ∧ win ≤ 4096 ∧ n ≤ win
/-- .. and its bytes. -/
structure HolR (w : World) (x : Nat) (bv : Value) (win : Nat) (l : List UInt8) (seen : Nat) (ap : Value) : Prop where
  v : HolV w x bv win l.length seen ap
  row : OB 5 0 w bv l
  own : bv.ownBlock ≠ some x
section
variable {w w' : World} {x win n seen : Nat} {bv ap : Value} {l : List UInt8} {F : Nat → Prop}
theorem HolV.lt (h : HolV w x bv win n seen ap) : x < w.heap.size := by obtain ⟨pv, hb⟩ := h.blk; exact hb.lt
theorem HolV.later (h : HolV w x bv win n seen ap) (k : Below w.heap.size w w') : HolV w' x bv win n seen ap := ⟨by obtain ⟨pv, hb⟩ := h.blk; exact ⟨pv, hb.later k⟩, h.form, h.wn⟩
theorem HolV.foot (h : HolV w x bv win n seen ap) (k : Foot F w w') (hx : ¬ F x) : HolV w' x bv win n seen ap := ⟨by obtain ⟨pv, hb⟩ := h.blk; exact ⟨pv, hb.foot k hx⟩, h.form, h.wn⟩
theorem HolR.later (h : HolR w x bv win l seen ap) (k : Below w.heap.size w w') : HolR w' x bv win l seen ap := ⟨h.v.later k, h.row.later k, h.own⟩
theorem OB.same {e : TypeId} {B : Nat} {v : Value} (h : OB e B w v l) (k : ∀ g, v.ownBlock = some g → w'.heap[g]? = w.heap[g]?) : OB e B w' v l := by
  refine ⟨h.1, ?_⟩
  rcases h.2 with hn | ⟨g, cap, cur, rfl, h1, hg, rest⟩
  · exact .inl hn
  · exact .inr ⟨g, cap, cur, rfl, h1, (k g rfl).trans hg, rest⟩
theorem OB.foot {e : TypeId} {B : Nat} {v : Value} (h : OB e B w v l) (k : Foot F w w') (hF : ∀ g, v.ownBlock = some g → ¬ F g) : OB e B w' v l := h.same fun g hg => k.block g (h.lt g hg).2 (hF g hg)
theorem OB.far {e : TypeId} {B : Nat} {v : Value} (h : OB e B w v l) {p : Addr} (hp : v.ownBlock ≠ some p.block) (u : Value) : OB e B (w.setCell p u) v l := h.same fun g hg => Below.heap_setCell _ _ _ _ (fun e => hp (by rw [hg, e]))
theorem HolR.foot (h : HolR w x bv win l seen ap) (k : Foot F w w') (hx : ¬ F x) (hF : ∀ g, bv.ownBlock = some g → ¬ F g) : HolR w' x bv win l seen ap := ⟨h.v.foot k hx, h.row.foot k hF, h.own⟩
end

theorem hoNew (w : World) (n : Nat) (hn : 1 ≤ n ∧ n ≤ 4096) : Calls Tryz.prog 77 #[.int .i64 n] w fun e w' => e = .returned (.pointer (some ⟨w.heap.size, 0, none⟩)) ∧ HolR w' w.heap.size (.slice none 0 0) n [] 0 (.pointer none) ∧ Below w.heap.size w w' := by
  have h1 : (1 : Int) ≤ (n : Int) := by omega
  have h2 : (n : Int) ≤ 4096 := by omega
  go_enter Tryz.func77, Tryz.ntmps77
  go_wp2_with fail
  go_ret
  exact ⟨rfl, ⟨⟨⟨_, Blk.new _ _ _⟩, ⟨none, 0, rfl⟩, hn.1, hn.2, Nat.zero_le _⟩, OB.nil _ _ _, by intro e; cases e⟩, Below.alloc (Below.refl _ _) (Nat.le_refl _) _⟩
theorem hoFresh {w : World} {x : Nat} {bv : Value} {win n : Nat} {ap : Value} (h : HolV w x bv win n n ap) : Calls Tryz.prog 101 #[.pointer (some ⟨x, 0, none⟩)] w fun e w' => e = .returned (.int .i64 0) ∧ Below w.heap.size w w' := by
  obtain ⟨⟨pv, hb⟩, ⟨ao, cap, rfl⟩, hw⟩ := h
  have d := hb.at5
  have hr := Below.refl w.heap.size w
  have e1 : (n : Int) - (n : Int) = 0 := by omega
  have e2 : IntKind.i64.wrap ((n : Int) - (n : Int)) = 0 := by rw [e1]; rfl
  clear hb
  go_enter Tryz.func101, Tryz.ntmps101
  go_upto_region 3 with fail
  refine wp_region_later w.heap.size (by kernel_rfl) (by kernel_rfl) ?_
  have hu : ∀ u : Later w.heap.size w, Below w.heap.size w u.world := Later.below
  repeat (go_big_quiet_step ((fail)))
  refine wpQuiet_nil ?_
  intro w2 b2
  go_wp2_with fail
  go_ret
  exact ⟨rfl, b2⟩
set_option maxRecDepth 100000 in
set_option maxHeartbeats 4000000 in
/-- The next byte is looked at. -/
theorem hoNext {w : World} {x : Nat} {bv : Value} {win : Nat} {l : List UInt8} {c : UInt8} {b : AB} {p : Pat} (h : HolR w x bv win (l ++ [c]) l.length (.pointer (some ⟨b.x, 0, none⟩))) (ha : ArmS w b p) (hd : ∀ i, b.in_ i → i ≠ x ∧ bv.ownBlock ≠ some i) :
    Calls Tryz.prog 193 #[.pointer (some ⟨x, 0, none⟩)] w fun e w' => e = .returned (.tuple #[.int .i64 0, .bool (p.feed c.toNat).2]) ∧ HolR w' x bv win (l ++ [c]) (l.length + 1) (.pointer (some ⟨b.x, 0, none⟩)) ∧ ArmS w' b (p.feed c.toNat).1 ∧ Foot (fun i => i = x ∨ i = b.x ∨ i = b.g) w w' := by
  obtain ⟨⟨⟨pv, hb⟩, ⟨ao, cap, rfl⟩, hw⟩, hrow, hown⟩ := h
  obtain ⟨g, rfl, hc⟩ := hrow.cell l.length (by simp)
  have hlen : (l ++ [c]).length = l.length + 1 := by simp
  have hgx : g ≠ x := fun e => hown (by rw [e]; rfl)
  have d := hb.at5
  have hr := Below.refl w.heap.size w
  have hl4 : l.length + 1 ≤ 4096 := by simp at hw; omega
  have s1 : IntKind.i64.wrap ((l.length : Int) + 1) = (l.length : Int) + 1 := by rw [IntWalk.i64_in _ (by omega)]
  have s2 : IntKind.i64.wrap ((l.length : Int) + 1 - 1) = (l.length : Int) := by rw [IntWalk.i64_in _ (by omega)]; omega
  have s3 : IntKind.i64.wrap (l.length : Int) = (l.length : Int) := by rw [IntWalk.i64_in _ (by omega)]
  have K1 : Blk (w.setCell ⟨x, 2, none⟩ (.int .i64 ((l.length : Int) + 1))) x 194 #[.int .i64 win, .slice (some ⟨g, 0, none⟩) (l ++ [c]).length cap, .int .i64 ((l.length : Int) + 1), pv, .pointer (some ⟨b.x, 0, none⟩)] := by
    have := hb.set_ 2 (.int .i64 ((l.length : Int) + 1))
    simpa using this
  have R1 := hrow.far (p := ⟨x, 2, none⟩) hown (.int .i64 ((l.length : Int) + 1))
  have F1 := foot_set (fun i => i = x ∨ i = b.x ∨ i = b.g) (Foot.refl _ w) x 2 (.inl rfl) (.int .i64 ((l.length : Int) + 1))
  have A1 := ha.foot (foot_set (fun i => i = x) (Foot.refl _ w) x 2 rfl (.int .i64 ((l.length : Int) + 1))) (fun i hi => (hd i hi).1)
  obtain ⟨w1, hw1⟩ : ∃ w1, w1 = w.setCell ⟨x, 2, none⟩ (.int .i64 ((l.length : Int) + 1)) := ⟨_, rfl⟩
  rw [← hw1] at K1 R1 F1 A1
  have HW1 := Lib.hid hw1
  obtain ⟨g', hg', hc1⟩ := R1.cell l.length (by simp)
  cases hg'
  have hlast : (l ++ [c])[l.length]'(by simp) = c := by simp
  rw [hlast] at hc1
  have dc : ∀ w', Below w1.heap.size w1 w' → w'.cell? ⟨g, l.length, none⟩ = some (bval c) := fun w' hb => (hb.cell (p := ⟨g, l.length, none⟩) (R1.lt g rfl).2).trans hc1
  have FF : Hid (∀ w', Below w1.heap.size w1 w' → Calls Tryz.prog 204 #[.pointer (some ⟨b.x, 0, none⟩), .int .u8 c.toNat] w' fun e w'' => e = .returned (.tuple #[.int .i64 0, .bool (p.feed c.toNat).2]) ∧ ArmS w'' b (p.feed c.toNat).1 ∧ Foot (fun i => i = b.x ∨ i = b.g) w' w'') := Lib.hid fun w' hb => arFeed (A1.later hb) c.toNat c.toNat_lt
  have e3 : (l.length : Int) < ((l ++ [c]).length : Int) := by rw [hlen]; omega
  have e4 : l.length < (l ++ [c]).length := by rw [hlen]; omega
  have HD := Lib.hid hd
  have HX := Lib.hid hgx
  have HR1 := Lib.hid R1
  have HWN := Lib.hid hw
  clear hw1 hc hlast hd A1 hrow hown hw
  obtain ⟨N, hN⟩ : ∃ N, (l ++ [c]).length = N := ⟨_, rfl⟩
  rw [hN] at K1 HD hb e3 e4 d HR1
  have HN := Lib.hid hN
  clear hlen hN
  generalize (p.feed c.toNat).2 = fo at *
  generalize (p.feed c.toNat).1 = p' at *
  go_enter Tryz.func193, Tryz.ntmps193
  go_upto_region 2 with fail
  rw [← HW1.out]
  clear d hr hb R1 ha hc1
  have d := K1.at5
  have hr := Below.refl w1.heap.size w1
  clear s2
  have MKS : Hid (∀ w', Blk w' x 194 #[.int .i64 win, .slice (some ⟨g, 0, none⟩) N cap, .int .i64 ((l.length : Int) + 1), pv, .pointer (some ⟨b.x, 0, none⟩)] → w'.cell? ⟨g, l.length, none⟩ = some (bval c) → w'.cell? ⟨x, 1, none⟩ = some (.slice (some ⟨g, 0, none⟩) N cap) ∧ w'.cell? ⟨x, 2, none⟩ = some (.int .i64 ((l.length : Int) + 1)) ∧ w'.cell? ⟨x, 4, none⟩ = some (.pointer (some ⟨b.x, 0, none⟩)) ∧ w'.cell? ⟨g, l.length, none⟩ = some (bval c)) := Lib.hid fun w' hw hg => ⟨hw.cell 1, hw.cell 2, hw.cell 4, hg⟩
  have HBX : Hid (b.x ≠ x ∧ b.g ≠ x ∧ b.x ≠ g ∧ b.g ≠ g) := Lib.hid ⟨(HD.out _ (.inl rfl)).1, (HD.out _ (.inr (.inl rfl))).1, fun e => (HD.out _ (.inl rfl)).2 (by rw [e]; rfl), fun e => (HD.out _ (.inr (.inl rfl))).2 (by rw [e]; rfl)⟩
  have hc0 := dc _ (Below.refl _ _)
  have dcd := dc _ (Below.refl w1.heap.size w1).drew
  have FF' := Lib.hid (FF.out _ (Below.refl w1.heap.size w1).drew)
  have HG1 := Lib.hid (HR1.out.lt g rfl).2
  clear d dc hr FF
  refine wp_region_ordL (S := fun w' => w'.cell? ⟨x, 1, none⟩ = some (.slice (some ⟨g, 0, none⟩) N cap) ∧ w'.cell? ⟨x, 2, none⟩ = some (.int .i64 ((l.length : Int) + 1)) ∧ w'.cell? ⟨x, 4, none⟩ = some (.pointer (some ⟨b.x, 0, none⟩)) ∧ w'.cell? ⟨g, l.length, none⟩ = some (bval c)) [0, 1, 2, 3, 4, 5, 6, 7, 8, 9, 10, 11, 12, 13, 14, 15, 16, 17, 18, 19] 19 (by kernel_rfl) (by kernel_rfl) (by kernel_rfl) (by kernel_rfl) (by kernel_rfl) (by kernel_rfl) (MKS.out _ K1.drew dcd) ?_
  simp only [pickL, List.filterMap_cons, List.filterMap_nil, List.getElem?_cons_zero, List.getElem?_cons_succ]
  repeat (refine ordL_take (v := ?_) (by rfl) (by rfl) ?_ ?_; rotate_left; (focus (intro w hSw; (try dsimp only at hSw); go_simp; (try with_reducible rfl))); simp only [Act.put, List.setIfInBounds_toArray, List.set_cons_zero, List.set_cons_succ])
  refine ordL_lone (by rfl) (by rfl) (fun KK hK => ?_)
  try go_simp
  refine FF'.out.mono ?_; rintro e w2 ⟨rfl, a2, f2⟩
  try go_wp2_with fail
  have K2 := K1.drew.foot f2 (by have := HBX.out; omega)
  have c2 : w2.cell? ⟨g, l.length, none⟩ = some (bval c) := by
    have : w2.heap[g]? = w1.drew.heap[g]? := f2.block g HG1.out (by have := HBX.out; omega)
    rw [← dcd]
    unfold World.cell?
    simp only [this]
  refine hK.out _ _ (.inr (MKS.out _ K2 c2)) ?_
  clear hK KK
  try simp only [Act.put, List.setIfInBounds_toArray, List.set_cons_zero, List.set_cons_succ]
  repeat (refine ordL_take (v := ?_) (by rfl) (by rfl) ?_ ?_; rotate_left; (focus (intro w hSw; (try dsimp only at hSw); go_simp; (try with_reducible rfl))); simp only [Act.put, List.setIfInBounds_toArray, List.set_cons_zero, List.set_cons_succ])
  refine ordL_done ?_
  go_wp2_with fail
  go_ret2
  have hN := HN.out
  subst hN
  refine ⟨rfl, ⟨⟨⟨pv, K2⟩, ⟨_, _, rfl⟩, HWN.out⟩, (HR1.out.later ((Below.refl _ _).drew)).foot f2 (fun g' hg' => by cases hg'; have := HBX.out; show ¬ (g = b.x ∨ g = b.g); omega), fun e => by cases e; exact HX.out rfl⟩, a2, (F1.up (Below.refl _ _).drew).trans (f2.mono fun i hi => .inr hi)⟩
/-- Nothing is appended to what has no room. -/
theorem wp_append0 {P : Program} {e te : TypeId} {o : Oper} {a : Act} {w : World} {K : Act → World → Prop} {Q : Exit → Act → World → Prop} (hte : P.underlying te = some (.slice e)) (hi : (P.info? e).isSome = true)
    (s x : Operand) (hop : o.op = Op.call { callee := Callee.builtin Builtin.append, args := #[s, x], argTypes := #[te, te] }) (g off c : Nat) (ad : Addr) (hs : a.eval s = .slice (some ⟨g, off, none⟩) 0 0) (hx : a.eval x = .slice (some ad) 0 c)
    (hK : K (a.put o.dst (.slice (some ⟨g, off, none⟩) 0 0)) w) : Oper.wp P o a w K Q := by
  obtain ⟨i, hi⟩ := Option.isSome_iff_exists.1 hi
  have hr := run_append_room_cells (P := P) w te o.type e i hte hi g off 0 0 ad 0 c [] (by simp) (fun j u hj => by simp at hj) (fun u hu => by cases hu) (by omega) (fun j hj => by simp at hj) (fun j hj => by simp at hj)
  have hw : w.setCells g (off + 0 * i.size) [] = w := rfl
  rw [hw] at hr
  unfold Oper.wp execOp
  simp only [hop, resolve, invoke, builtin, Sem.run_bind, Sem.run_pure, Result.andThen_ok, List.map_toArray, List.map_cons, List.map_nil, hs, hx, hr]
  exact hK
set_option maxRecDepth 100000 in
set_option maxHeartbeats 4000000 in
/-- All bytes go: behind a match. -/
theorem hoMatch {w : World} {x : Nat} {bv : Value} {win : Nat} {l : List UInt8} {n : Nat} {b : AB} {p : Pat} (h : HolR w x bv win l n (.pointer (some ⟨b.x, 0, none⟩))) (ha : ArmS w b p) (hl : 0 < l.length) (hd : ∀ i, b.in_ i → i ≠ x) :
    Calls Tryz.prog 194 #[.pointer (some ⟨x, 0, none⟩), .int .i64 (l.length : Nat)] w fun e w' => ∃ bv' b', e = .returned (.tuple #[]) ∧ HolV w' x bv' win 0 0 (.pointer (some ⟨b.x, 0, none⟩)) ∧ bv'.ownBlock = bv.ownBlock ∧ ArmS w' b' p.fresh ∧ b'.x = b.x ∧ (∀ i, b'.in_ i → b.in_ i ∨ w.heap.size ≤ i) ∧ Foot (fun i => i = x ∨ i = b.x) w w' := by
  obtain ⟨⟨⟨pv, hb⟩, ⟨ao, cap, rfl⟩, hw⟩, hrow, hown⟩ := h
  obtain ⟨g, rfl, hc⟩ := hrow.cell 0 hl
  have hgx : g ≠ x := fun e => hown (by rw [e]; rfl)
  have d := hb.at5
  have hr := Below.refl w.heap.size w
  have hcap : l.length ≤ cap := by
    rcases hrow.2 with ⟨e, _⟩ | ⟨g, cap', cur, hv, _, _, h1, _⟩
    · cases e
    · cases hv; exact h1
  have hcap2 : (l.length : Int) ≤ (cap : Int) := by omega
  go_enter Tryz.func194, Tryz.ntmps194
  go_upto_region 0 with fail
  refine wp_region_ordL (S := fun w' => Below w.heap.size w w') [0, 1, 2, 3, 4, 5, 6, 7, 8, 9, 10, 11, 12, 13, 14, 15] 15 (by kernel_rfl) (by kernel_rfl) (by kernel_rfl) (by kernel_rfl) (by kernel_rfl) (by kernel_rfl) (Below.refl _ _).drew ?_
  simp only [pickL, List.filterMap_cons, List.filterMap_nil, List.getElem?_cons_zero, List.getElem?_cons_succ]
  repeat (refine ordL_take (v := ?_) (by rfl) (by rfl) ?_ ?_; rotate_left; (focus (intro w hSw; (try dsimp only at hSw); go_simp; (try with_reducible rfl))); simp only [Act.put, List.setIfInBounds_toArray, List.set_cons_zero, List.set_cons_succ])
  obtain ⟨ad, had⟩ : ∃ ad, (if cap = l.length then some (⟨g, 0, none⟩ : Addr) else some ⟨g, l.length, none⟩) = some ad := by split <;> exact ⟨_, rfl⟩
  rw [had]
  refine ordL_lone (by rfl) (by rfl) (fun KK hK => ?_)
  refine wp_append0 Tryz.underlying189 rfl (.tmp 9) (.tmp 15) rfl g 0 _ ad rfl rfl ?_
  refine hK.out _ _ (.inr (Below.refl _ _).drew) ?_
  clear hK KK
  try simp only [Act.put, List.setIfInBounds_toArray, List.set_cons_zero, List.set_cons_succ]
  repeat (refine ordL_take (v := ?_) (by rfl) (by rfl) ?_ ?_; rotate_left; (focus (intro w hSw; (try dsimp only at hSw); go_simp; (try with_reducible rfl))); simp only [Act.put, List.setIfInBounds_toArray, List.set_cons_zero, List.set_cons_succ])
  refine ordL_lone (by rfl) (by rfl) (fun KK hK => ?_)
  have K1 := hb.drew
  have dx := K1.at5
  have hr := Below.refl w.drew.heap.size w.drew
  try go_simp
  refine hK.out _ _ (.inl rfl) ?_
  clear hK KK
  try simp only [Act.put, List.setIfInBounds_toArray, List.set_cons_zero, List.set_cons_succ]
  refine ordL_done ?_
  have K3 : Blk (((w.setCell ⟨x, 1, none⟩ (.slice (some ⟨g, 0, none⟩) 0 0)).drew).setCell ⟨x, 2, none⟩ (.int .i64 0)) x 194 #[.int .i64 win, .slice (some ⟨g, 0, none⟩) 0 0, .int .i64 0, pv, .pointer (some ⟨b.x, 0, none⟩)] := by
    have := ((hb.set_ 1 (.slice (some ⟨g, 0, none⟩) 0 0)).drew).set_ 2 (.int .i64 0)
    simpa using this
  have F3 : Foot (fun i => i = x) w (((w.setCell ⟨x, 1, none⟩ (.slice (some ⟨g, 0, none⟩) 0 0)).drew).setCell ⟨x, 2, none⟩ (.int .i64 0)) := foot_set (fun i => i = x) ((foot_set (fun i => i = x) (Foot.refl _ w) x 1 rfl _).up (Below.refl _ _).drew) x 2 rfl _
  have K2 : Blk (w.setCell ⟨x, 1, none⟩ (.slice (some ⟨g, 0, none⟩) 0 0)).drew x 194 #[.int .i64 win, .slice (some ⟨g, 0, none⟩) 0 0, .int .i64 n, pv, .pointer (some ⟨b.x, 0, none⟩)] := by
    have := ((hb.set_ 1 (.slice (some ⟨g, 0, none⟩) 0 0)).drew)
    simpa using this
  obtain ⟨w2, hw2⟩ : ∃ w2, w2 = (w.setCell ⟨x, 1, none⟩ (.slice (some ⟨g, 0, none⟩) 0 0)).drew := ⟨_, rfl⟩
  rw [← hw2] at K2 K3 F3
  try rw [← hw2]
  obtain ⟨w3, hw3⟩ : ∃ w3, w3 = w2.setCell ⟨x, 2, none⟩ (.int .i64 0) := ⟨_, rfl⟩
  rw [← hw3] at K3 F3
  have A3 := ha.foot F3 (fun i hi => hd i hi)
  have FR := Lib.hid (arReset A3)
  have HW3 := Lib.hid hw3
  have HD := Lib.hid hd
  have hx := Lib.hid (F3.size)
  clear hw2 hw3 d hr dx K1 hb hrow ha hd hc had A3
  have d := K2.at5
  have hr := Below.refl w2.heap.size w2
  go_upto_region 2 with fail
  rw [← HW3.out]
  clear d hr
  have d := K3.at5
  have hr := Below.refl w3.heap.size w3
  go_wp2_with fail
  refine FR.out.mono ?_; rintro e w4 ⟨b', rfl, e4, a4, g4, f4⟩
  go_wp2_with fail
  go_end0
  have hbx := HD.out _ (.inl rfl)
  exact ⟨_, b', rfl, ⟨⟨pv, K3.foot f4 (Ne.symm hbx)⟩, ⟨_, _, rfl⟩, hw.1, hw.2.1, Nat.zero_le _⟩, rfl, a4, e4, fun i hi => (g4 i hi).imp id (fun h => Nat.le_trans hx.out h), (F3.mono fun i hi => .inl hi).trans (f4.mono fun i hi => .inr hi)⟩
/-! A look through what there is. -/
inductive LkO where
  | look
  | full
  | hit
structure LkT where
  o : LkO
  read : Nat
  gone : Nat
  l : List UInt8
  p : Pat
  s : List UInt8
def lookT (win : Nat) : List UInt8 → Pat → List UInt8 → Nat → LkT
  | l, p, [], k => ⟨.look, k, 0, l, p, []⟩
  | l, p, c :: s, k => if l.length = win then ⟨.full, k, 0, l, p, c :: s⟩ else
    if (p.feed c.toNat).2 = true then ⟨.hit, k + 1, l.length + 1, [], (p.feed c.toNat).1.fresh, s⟩ else lookT win (l ++ [c]) (p.feed c.toNat).1 s (k + 1)
def LkT.isHit (t : LkT) : Bool := match t.o with | .hit => true | _ => false
def LkT.isFull (t : LkT) : Bool := match t.o with | .full => true | _ => false
/-- What Look gives. -/
def LkT.val (t : LkT) : Value := .agg #[.bool t.isHit, .bool t.isFull, .int .i64 0, .int .i64 t.gone, .int .i64 t.read]
/-- Names of blocks: what is new may be named anew. -/
def LabEq (lab lab' : Nat → Nat) (w : World) : Prop := ∀ i, i < w.heap.size → lab' i = lab i
theorem LabEq.refl (lab : Nat → Nat) (w : World) : LabEq lab lab w := fun _ _ => rfl
theorem LabEq.trans {a b c : Nat → Nat} {w w' : World} (h : LabEq a b w) (k : LabEq b c w') (hs : w.heap.size ≤ w'.heap.size) : LabEq a c w := fun i hi => (k i (Nat.lt_of_lt_of_le hi hs)).trans (h i hi)
theorem Foot.lab {P : Nat → Prop} {lab lab' : Nat → Nat} {a w w' : World} (h : Foot (fun i => P (lab i)) a w) (k : Foot (fun i => P (lab' i)) w w') (e : LabEq lab lab' a) : Foot (fun i => P (lab i)) a w' := h.then k fun i hi hp => by rw [← e i hi]; exact hp
/-- A new name for all that is new. -/
def labNew (lab : Nat → Nat) (w : World) (c : Nat) : Nat → Nat := fun i => if i < w.heap.size then lab i else c
theorem labNew_eq (lab : Nat → Nat) (w : World) (c : Nat) : LabEq lab (labNew lab w c) w := fun i hi => if_pos hi
theorem labNew_old {lab : Nat → Nat} {w : World} {c i : Nat} (h : i < w.heap.size) : labNew lab w c i = lab i := if_pos h
theorem labNew_new {lab : Nat → Nat} {w : World} {c i : Nat} (h : w.heap.size ≤ i) : labNew lab w c i = c := if_neg (by omega)
end Go.Proofs.YtbhgmccaecmpjaaGreat
