/-
  hold.Look: what waits in a ring is looked through.
  Conditions: the blocks are known.
-/
import Derived.Test.YtbhgmccaecmpjaaGreatW15
namespace Go.Proofs.YtbhgmccaecmpjaaGreat
set_option linter.unusedVariables false
set_option linter.unusedSimpArgs false
open Go.RowKit

/-- Names of the blocks that a look may change. -/
structure LkLab (lab : Nat → Nat) (x : Nat) (bv : Value) (b : AB) (rx ra : Nat) : Prop where
  x : lab x = 22
  row : ∀ g, bv.ownBlock = some g → lab g = 23
  arms : ∀ i, b.in_ i → lab i = 24
  rx : lab rx = 21
  ra : lab ra = 20
/-- Such names. -/
def isLk (c : Nat) : Prop := 20 ≤ c ∧ c ≤ 24
/-- All that a round of a look knows. -/
structure LkI (w wr : World) (q : Nat) (lab lab' : Nat → Nat) (x : Nat) (b : AB) (rx ra N win : Nat) (bv : Value) (f : Nat) (l : List UInt8) (n : Nat) (p : Pat) (s : List UInt8) (k : Nat) : Prop where
  eq : LabEq lab lab' w
  nm : LkLab lab' x bv b rx ra
  hol : HolR wr x bv win l n (.pointer (some ⟨b.x, 0, none⟩))
  arm : ArmS wr b p
  rng : Rng wr rx ra N f s
  b5 : Blk wr (q + 1) 255 #[.bool false, .bool false, .int .i64 0, .int .i64 0, .int .i64 k]
  b4 : Blk wr q 255 #[.bool false, .bool false, .int .i64 0, .int .i64 0, .int .i64 0]
  foot : Foot (fun i => isLk (lab i)) w wr
  lt : x < w.heap.size ∧ rx < w.heap.size ∧ ra < w.heap.size ∧ (∀ i, b.in_ i → i < w.heap.size)
  km : k + s.length ≤ 4096
  nq : ∀ g, bv.ownBlock = some g → g ≠ q ∧ g ≠ q + 1
  hq : w.heap.size = q
section
variable {w wr wr' : World} {lab lab' : Nat → Nat} {x rx ra N win f k q n : Nat} {b : AB} {bv : Value} {l s : List UInt8} {p : Pat}
theorem LkI.later (h : LkI w wr q lab lab' x b rx ra N win bv f l n p s k) (kb : Below wr.heap.size wr wr') : LkI w wr' q lab lab' x b rx ra N win bv f l n p s k :=
  ⟨h.eq, h.nm, h.hol.later kb, h.arm.later kb, h.rng.later kb, h.b5.later kb, h.b4.later kb, h.foot.up kb, h.lt, h.km, h.nq, h.hq⟩
end
theorem foot_set5 {F : Nat → Prop} {a w : World} {g : Nat} (h : Foot F a w) (hg : F g) (u0 u1 u2 u3 u4 : Value) : Foot F a (((((w.setCell ⟨g, 0, none⟩ u0).setCell ⟨g, 1, none⟩ u1).setCell ⟨g, 2, none⟩ u2).setCell ⟨g, 3, none⟩ u3).setCell ⟨g, 4, none⟩ u4) :=
  foot_set F (foot_set F (foot_set F (foot_set F (foot_set F h g 0 hg u0) g 1 hg u1) g 2 hg u2) g 3 hg u3) g 4 hg u4
/-- What stands, where only the look's own two variables have turned. -/
theorem LkI.mine {w wr wr' : World} {lab lab' : Nat → Nat} {x rx ra N win f k q n : Nat} {b : AB} {bv : Value} {l s : List UInt8} {p : Pat} (h : LkI w wr q lab lab' x b rx ra N win bv f l n p s k) (ff : Foot (fun i => i = q ∨ i = q + 1) wr wr') :
    HolR wr' x bv win l n (.pointer (some ⟨b.x, 0, none⟩)) ∧ ArmS wr' b p ∧ Rng wr' rx ra N f s ∧ Foot (fun i => isLk (lab i)) w wr' := by
  have lt := h.lt
  have hq := h.hq
  refine ⟨h.hol.foot ff (by omega) (fun g hg => by have := h.nq g hg; omega), h.arm.foot ff (fun i hi => by have := lt.2.2.2 i hi; omega), h.rng.foot ff (by omega) (by omega), h.foot.then ff (fun i hi e => by omega)⟩
/-- A byte is taken from the ring and laid behind all others. -/
theorem LkI.push {w w3 w4 w5 w6 : World} {q : Nat} {lab lab' : Nat → Nat} {x rx ra N win f f' k cap6 : Nat} {b : AB} {bv : Value} {l s : List UInt8} {c : UInt8} {p : Pat} {ao : Option Addr} (I : LkI w w3 q lab lab' x b rx ra N win bv f l l.length p (c :: s) k) (hwin : l.length ≠ win)
    (r4 : Rng w4 rx ra N f' s) (f4 : Foot (fun i => i = rx) w3.drew w4) (b5 : Below w4.heap.size w4 w5)
    (o6 : ORow 5 1 0 w6 (.slice ao (l.length + 1) cap6) (l.length + 1) (l.map bval ++ [bval c])) (g6 : w5.grownBy w6 bv.ownBlock) (gr6 : Grew bv (.slice ao (l.length + 1) cap6) w5) :
    ∃ lab'', LkI w (w6.setCell ⟨x, 1, none⟩ (.slice ao (l.length + 1) cap6)) q lab lab'' x b rx ra N win (.slice ao (l.length + 1) cap6) f' (l ++ [c]) l.length p s k := by
  obtain ⟨⟨⟨pv, hb⟩, -, hw⟩, hrow, hown⟩ := I.hol
  have n1 := I.nm.x
  have n2 := I.nm.rx
  have n3 := I.nm.ra
  have n4 := I.nm.row
  have n5 := I.nm.arms
  have eq := I.eq
  have hq := I.hq
  obtain ⟨l1, l2, l3, l4⟩ := I.lt
  have lq := I.b5.lt
  have f35 : Foot (fun i => i = rx) w3 w5 := ((Foot.later (Below.refl _ _).drew).trans f4).up b5
  have s35 := f35.size
  have s3 := I.foot.size
  have f56 : Foot (fun i => bv.ownBlock = some i) w5 w6 := Foot.grown g6 (fun g hg => hg)
  have f67 : Foot (fun i => i = x) w6 (w6.setCell ⟨x, 1, none⟩ (.slice ao (l.length + 1) cap6)) := foot_set (fun i => i = x) (Foot.refl _ w6) x 1 rfl _
  have xrx : x ≠ rx := fun e => by rw [e] at n1; omega
  have xra : x ≠ ra := fun e => by rw [e] at n1; omega
  have brx : bv.ownBlock ≠ some rx := fun e => by have := n4 _ e; omega
  have bra : bv.ownBlock ≠ some ra := fun e => by have := n4 _ e; omega
  have own' : (Value.slice ao (l.length + 1) cap6).ownBlock ≠ some x := fun e => by
    rcases gr6 x e with e | e
    · exact hown e
    · have := hb.lt; omega
  have all : Foot (fun i => i = rx ∨ bv.ownBlock = some i ∨ i = x) w3 (w6.setCell ⟨x, 1, none⟩ (.slice ao (l.length + 1) cap6)) :=
    ((f35.mono (G := fun i => i = rx ∨ bv.ownBlock = some i ∨ i = x) fun i h => .inl h).trans (f56.mono fun i h => .inr (.inl h))).trans (f67.mono fun i h => .inr (.inr h))
  have hlen : (l ++ [c]).length = l.length + 1 := by simp
  have K := (((hb.foot f35 xrx).foot f56 hown).set_ 1 (.slice ao (l.length + 1) cap6))
  refine ⟨labNew lab' w5 23, ⟨?_, ⟨?_, ?_, ?_, ?_, ?_⟩, ⟨⟨⟨pv, by simpa using K⟩, ⟨ao, cap6, by rw [hlen]⟩, hw.1, hw.2.1, by rw [hlen]; omega⟩, ?_, own'⟩, ?_, ?_, ?_, ?_, ?_, ⟨l1, l2, l3, l4⟩, ?_, ?_, hq⟩⟩
  · exact eq.trans (labNew_eq _ _ _) (by omega)
  · rw [labNew_old (by omega)]; exact n1
  · intro g hg
    rcases gr6 g hg with e | e
    · rw [labNew_old (by have := (hrow.lt g e).2; omega)]; exact n4 g e
    · exact labNew_new e
  · intro i hi
    rw [labNew_old (by have := l4 i hi; omega)]; exact n5 i hi
  · rw [labNew_old (by omega)]; exact n2
  · rw [labNew_old (by omega)]; exact n3
  · have o7 : OB 5 0 w6 (.slice ao (l.length + 1) cap6) (l ++ [c]) := by
      unfold OB
      rw [hlen, List.map_append]
      exact o6
    exact o7.far (p := ⟨x, 1, none⟩) own' _
  · refine I.arm.foot all (fun i hi => ?_)
    have h5 := n5 i hi
    rintro (rfl | e | rfl)
    · omega
    · have := n4 i e; omega
    · omega
  · exact (r4.later b5).foot ((f56.mono (G := fun i => bv.ownBlock = some i ∨ i = x) fun i h => .inl h).trans (f67.mono fun i h => .inr h)) (by rintro (e | e); exact brx e; exact xrx e.symm) (by rintro (e | e); exact bra e; exact xra e.symm)
  · exact I.b5.foot all (by rintro (e | e | e); omega; exact (I.nq _ e).2 rfl; omega)
  · exact I.b4.foot all (by rintro (e | e | e); omega; exact (I.nq _ e).1 rfl; omega)
  · refine I.foot.then all (fun i hi h => ?_)
    rw [← eq i hi]
    show 20 ≤ lab' i ∧ lab' i ≤ 24
    rcases h with rfl | e | rfl
    · omega
    · have := n4 i e; omega
    · omega
  · have := I.km; simp at this; omega
  · intro g hg
    rcases gr6 g hg with e | e
    · exact I.nq g e
    · omega
/-- One more was read. -/
theorem LkI.more {w wr : World} {lab lab' : Nat → Nat} {x rx ra N win f k q n : Nat} {b : AB} {bv : Value} {l s : List UInt8} {p : Pat} (h : LkI w wr q lab lab' x b rx ra N win bv f l n p s k) (hk : k + 1 + s.length ≤ 4096) :
    LkI w (wr.setCell ⟨q + 1, 4, none⟩ (.int .i64 ((k + 1 : Nat) : Int))) q lab lab' x b rx ra N win bv f l n p s (k + 1) := by
  have ff : Foot (fun i => i = q ∨ i = q + 1) wr (wr.setCell ⟨q + 1, 4, none⟩ (.int .i64 ((k + 1 : Nat) : Int))) := foot_set (fun i => i = q ∨ i = q + 1) (Foot.refl _ wr) (q + 1) 4 (.inr rfl) _
  have mm := h.mine ff
  refine ⟨h.eq, h.nm, mm.1, mm.2.1, mm.2.2.1, ?_, h.b4.far (p := ⟨q + 1, 4, none⟩) (by show q ≠ q + 1; omega) _, mm.2.2.2, h.lt, hk, h.nq, h.hq⟩
  have := h.b5.set_ 4 (.int .i64 ((k + 1 : Nat) : Int))
  simpa using this
/-- The next byte was looked at. -/
theorem LkI.next {w wr wr' : World} {lab lab' : Nat → Nat} {x rx ra N win f k q n : Nat} {b : AB} {bv : Value} {l s : List UInt8} {p p' : Pat} (h : LkI w wr q lab lab' x b rx ra N win bv f l n p s k) (hol : HolR wr' x bv win l (n + 1) (.pointer (some ⟨b.x, 0, none⟩))) (arm : ArmS wr' b p') (ff : Foot (fun i => i = x ∨ i = b.x ∨ i = b.g) wr wr') :
    LkI w wr' q lab lab' x b rx ra N win bv f l (n + 1) p' s k := by
  have hx := h.nm.arms b.x (.inl rfl)
  have hg := h.nm.arms b.g (.inr (.inl rfl))
  have h1 := h.nm.x
  have h2 := h.nm.rx
  have h3 := h.nm.ra
  have lt := h.lt
  have lbx := lt.2.2.2 b.x (.inl rfl)
  have lbg := lt.2.2.2 b.g (.inr (.inl rfl))
  have hq := h.hq
  have ne : ∀ i c, lab' i = c → c ≠ 22 → c ≠ 24 → ¬ (i = x ∨ i = b.x ∨ i = b.g) := fun i c hi hc1 hc2 => by rintro (rfl | rfl | rfl) <;> omega
  refine ⟨h.eq, h.nm, hol, arm, h.rng.foot ff (ne _ _ h2 (by omega) (by omega)) (ne _ _ h3 (by omega) (by omega)), h.b5.foot ff (by omega), h.b4.foot ff (by omega), h.foot.then ff (fun i hi e => ?_), lt, h.km, h.nq, hq⟩
  rw [← h.eq i hi]
  show 20 ≤ lab' i ∧ lab' i ≤ 24
  rcases e with rfl | rfl | rfl <;> omega
/-- Where the ring's count stands. -/
def cntAt (w : World) (rx : Nat) : Nat := match w.cell? ⟨rx, 2, none⟩ with | some v => (intOf v).toNat | none => 0
theorem cntAt_rng {w : World} {rx ra N f : Nat} {s : List UInt8} (h : Rng w rx ra N f s) : cntAt w rx = s.length := by
  unfold cntAt
  rw [h.blk.cell 2]
  simp [intOf]

set_option maxRecDepth 100000 in
set_option maxHeartbeats 16000000 in
theorem hoLook {w : World} {lab : Nat → Nat} {x : Nat} {bv : Value} {win : Nat} {l : List UInt8} {b : AB} {p : Pat} {rx ra N f : Nat} {s : List UInt8} (h : HolR w x bv win l l.length (.pointer (some ⟨b.x, 0, none⟩))) (ha : ArmS w b p) (hr : Rng w rx ra N f s) (hl : LkLab lab x bv b rx ra) :
    Calls Tryz.prog 178 #[.pointer (some ⟨x, 0, none⟩), .pointer (some ⟨rx, 0, none⟩)] w fun e w' => ∃ lab' bv' b' f', e = .returned (lookT win l p s 0).val ∧ LabEq lab lab' w ∧ LkLab lab' x bv' b' rx ra ∧ b'.x = b.x ∧
      HolV w' x bv' win (lookT win l p s 0).l.length (lookT win l p s 0).l.length (.pointer (some ⟨b.x, 0, none⟩)) ∧ ((lookT win l p s 0).isHit = false → HolR w' x bv' win (lookT win l p s 0).l (lookT win l p s 0).l.length (.pointer (some ⟨b.x, 0, none⟩))) ∧
      ArmS w' b' (lookT win l p s 0).p ∧ Rng w' rx ra N f' (lookT win l p s 0).s ∧ Foot (fun i => isLk (lab i)) w w' ∧ (∀ g, bv'.ownBlock = some g → g < w'.heap.size) := by
  obtain ⟨T, hT⟩ : ∃ T, lookT win l p s 0 = T := ⟨_, rfl⟩
  rw [hT]
  have hsn : s.length ≤ 4096 := Nat.le_trans hr.lN hr.nN
  have lx := h.v.lt
  have lrx := hr.blk.lt
  have lra : ra < w.heap.size := by obtain ⟨cs, hb, _⟩ := hr.arr; exact hb.lt
  have lb := ha.lt
  obtain ⟨q, hq⟩ : ∃ q, w.heap.size = q := ⟨_, rfl⟩
  obtain ⟨w1, hw1⟩ : ∃ w1, w1 = (w.alloc (.cells #[.bool false, .bool false, .int .i64 0, .int .i64 0, .int .i64 0] 255)).alloc (.cells #[.bool false, .bool false, .int .i64 0, .int .i64 0, .int .i64 0] 255) := ⟨_, rfl⟩
  have b1 : Below w.heap.size w w1 := by rw [hw1]; exact ((Below.refl _ _).alloc (Nat.le_refl _) _).alloc (by simp) _
  have K4 : Blk w1 q 255 #[.bool false, .bool false, .int .i64 0, .int .i64 0, .int .i64 0] := by rw [hw1, ← hq]; exact (Blk.new _ _ _).alloc _
  have K5 : Blk w1 (q + 1) 255 #[.bool false, .bool false, .int .i64 0, .int .i64 0, .int .i64 0] := by
    rw [hw1, ← hq]
    have := Blk.new (w.alloc (.cells #[.bool false, .bool false, .int .i64 0, .int .i64 0, .int .i64 0] 255)) 255 #[.bool false, .bool false, .int .i64 0, .int .i64 0, .int .i64 0]
    simpa using this
  have I1 : LkI w w1 q lab lab x b rx ra N win bv f l l.length p s 0 := ⟨LabEq.refl _ _, hl, h.later b1, ha.later b1, hr.later b1, K5, K4, Foot.later b1, ⟨lx, lrx, lra, lb⟩, by omega, fun g hg => by have := (h.row.lt g hg).2; omega, hq⟩
  have HI := Lib.hid I1
  have HT0 := Lib.hid hT
  have HW1 := Lib.hid hw1
  have HQ := Lib.hid hq
  clear hw1 hq h ha hr hl hT hsn lx lrx lra lb b1 K4 K5 I1
  go_enter Tryz.func178, Tryz.ntmps178
  go_upto_region 2 with fail
  rw [← HW1.out, HQ.out]
  go_wp2_with fail
  go_loopw [] (fun wr => ∃ lab' bv' f' l' p' s' k', Hid (LkI w wr q lab lab' x b rx ra N win bv' f' l' l'.length p' s' k') ∧ Hid (lookT win l' p' s' k' = T)) (fun wr => cntAt wr rx)
  case atStart => exact ⟨_, _, _, _, _, _, _, HI, HT0⟩
  case round =>
    clear HI HW1 HT0
    obtain ⟨lab', bv, f, l, p, s, k, HI, HT⟩ := hrel
    obtain ⟨⟨⟨pv, hb⟩, ⟨ao, cap, hbv⟩, hw⟩, hrow, hown⟩ := HI.out.hol
    subst hbv
    have HCN := Lib.hid (cntAt_rng HI.out.rng)
    have d := hb.at5
    have hr := Below.refl wr.heap.size wr
    clear hb hrow hown hw
    go_upto_region 4 with fail
    refine wp_region_later wr.heap.size (by kernel_rfl) (by kernel_rfl) ?_
    have hu : ∀ u : Later wr.heap.size wr, Below wr.heap.size wr u.world := Later.below
    repeat (go_big_quiet_step ((fail)))
    refine wpQuiet_nil ?_
    intro w2 b2
    have I2 := Lib.hid (HI.out.later b2)
    have FL := Lib.hid (riLen I2.out.rng)
    clear d hr hu b2 HI
    go_wp2_with fail
    refine FL.out.mono ?_; rintro e w3 ⟨rfl, rfl⟩
    clear FL
    cases s with
    | nil =>
      have hT := HT
      have d4 := I2.out.b4.at5
      have d5 := I2.out.b5.at5
      have hr := Below.refl w2.heap.size w2
      go_wp2_with fail
      have ff := foot_set5 (F := fun i => i = q ∨ i = q + 1) (Foot.refl _ w2) (.inl rfl) (.bool false) (.bool false) (.int .i64 0) (.int .i64 0) (.int .i64 k)
      have mm := I2.out.mine ff
      (try simp only [Exit.inBlock, Exit.then])
      refine bodyPost_ret (v := .agg #[.bool false, .bool false, .int .i64 0, .int .i64 0, .int .i64 k]) ?_ rfl ⟨lab', .slice ao l.length cap, b, f, ?_, I2.out.eq, I2.out.nm, rfl, ?_, ?_, ?_, ?_, mm.2.2.2, fun g hg => (mm.1.row.lt g hg).2⟩
      · rw [results_cell_one rfl]
        go_simp
      all_goals (rw [← hT.out])
      · rfl
      · exact mm.1.v
      · exact fun _ => mm.1
      · exact mm.2.1
      · exact mm.2.2.1
    | cons c s =>
      have e1 : (((s.length : Int) + 1) == 0) = false := ne_b (by omega)
      obtain ⟨⟨⟨pv2, hb⟩, -, hw⟩, hrow, hown⟩ := I2.out.hol
      have d := hb.at5
      have hr := Below.refl w2.heap.size w2
      by_cases hfull : l.length = win
      · have e2 : ((l.length : Int) == (win : Int)) = true := by rw [hfull]; exact beq_self_eq_true _
        have hT := HT
        have HF := Lib.hid hfull
        clear hfull hb hrow hown hw
        go_upto_region 7 with fail
        refine wp_region_later w2.heap.size (by kernel_rfl) (by kernel_rfl) ?_
        have hu : ∀ u : Later w2.heap.size w2, Below w2.heap.size w2 u.world := Later.below
        repeat (go_big_quiet_step ((fail)))
        refine wpQuiet_nil ?_
        intro w3 b3
        have I3 := Lib.hid (I2.out.later b3)
        clear d hr hu b3 I2
        have d4 := I3.out.b4.at5
        have d5 := I3.out.b5.at5
        have hr := Below.refl w3.heap.size w3
        go_wp2_with fail
        have ff := foot_set5 (F := fun i => i = q ∨ i = q + 1) (foot_set (fun i => i = q ∨ i = q + 1) (Foot.refl _ w3) (q + 1) 1 (.inr rfl) (.bool true)) (.inl rfl) (.bool false) (.bool true) (.int .i64 0) (.int .i64 0) (.int .i64 k)
        have mm := I3.out.mine ff
        (try simp only [Exit.inBlock, Exit.then])
        refine bodyPost_ret (v := .agg #[.bool false, .bool true, .int .i64 0, .int .i64 0, .int .i64 k]) ?_ rfl ⟨lab', .slice ao l.length cap, b, f, ?_, I3.out.eq, I3.out.nm, rfl, ?_, ?_, ?_, ?_, mm.2.2.2, fun g hg => (mm.1.row.lt g hg).2⟩
        · rw [results_cell_one rfl]
          go_simp
        all_goals (rw [← hT.out]; unfold lookT; rw [if_pos HF.out])
        · rfl
        · exact mm.1.v
        · exact fun _ => mm.1
        · exact mm.2.1
        · exact mm.2.2.1
      · have e2 : ((l.length : Int) == (win : Int)) = false := ne_b (by omega)
        have hT := Lib.hid (show (if (p.feed c.toNat).2 = true then (⟨.hit, k + 1, l.length + 1, [], (p.feed c.toNat).1.fresh, s⟩ : LkT) else lookT win (l ++ [c]) (p.feed c.toNat).1 s (k + 1)) = T from by
          have := HT.out
          unfold lookT at this
          rwa [if_neg hfull] at this)
        have HF := Lib.hid hfull
        clear hfull hb hrow hown hw
        go_upto_region 7 with fail
        refine wp_region_later w2.heap.size (by kernel_rfl) (by kernel_rfl) ?_
        have hu : ∀ u : Later w2.heap.size w2, Below w2.heap.size w2 u.world := Later.below
        repeat (go_big_quiet_step ((fail)))
        refine wpQuiet_nil ?_
        intro w3 b3
        have I3 := Lib.hid (I2.out.later b3)
        clear d hr hu b3 I2
        go_upto_region 10 with fail
        have I0 := I3.out
        obtain ⟨⟨⟨pv3, hb⟩, -, hw⟩, hrow, hown⟩ := I0.hol
        have lt := I0.lt
        have hxr : x ≠ rx := fun e => by have h1 := I0.nm.x; have h2 := I0.nm.rx; rw [e] at h1; omega
        have D : Below w3.heap.size w3 w3.drew := (Below.refl _ _).drew
        have hxa : rx ≠ ra := fun e => by have h1 := I0.nm.rx; have h2 := I0.nm.ra; rw [e] at h1; omega
        have FT := Lib.hid (riTake1 (I0.rng.later D) hxa)
        have dx := hb.drew.at5
        have hr := Below.refl w3.drew.heap.size w3.drew
        refine wp_region_ordL (S := fun w' => w'.cell? ⟨x, 1, none⟩ = some (.slice ao l.length cap)) [0, 1, 2, 3, 4, 5, 6, 7, 8, 9, 10, 11, 12] 12 (by kernel_rfl) (by kernel_rfl) (by kernel_rfl) (by kernel_rfl) (by kernel_rfl) (by kernel_rfl) (hb.drew.cell 1) ?_
        simp only [pickL, List.filterMap_cons, List.filterMap_nil, List.getElem?_cons_zero, List.getElem?_cons_succ]
        repeat (refine ordL_take (v := ?_) (by rfl) (by rfl) ?_ ?_; rotate_left; (focus (intro w hSw; (try dsimp only at hSw); go_simp; (try with_reducible rfl))); simp only [Act.put, List.setIfInBounds_toArray, List.set_cons_zero, List.set_cons_succ])
        refine ordL_lone (by rfl) (by rfl) (fun KK hK => ?_)
        try go_simp
        refine FT.out.mono ?_; rintro e w4 ⟨rfl, r4, f4⟩
        try go_wp2_with fail
        have hb4 := hb.drew.foot f4 hxr
        refine hK.out _ _ (.inr (hb4.cell 1)) ?_
        clear hK KK dx hr
        try simp only [Act.put, List.setIfInBounds_toArray, List.set_cons_zero, List.set_cons_succ]
        repeat (refine ordL_take (v := ?_) (by rfl) (by rfl) ?_ ?_; rotate_left; (focus (intro w hSw; (try dsimp only at hSw); go_simp; (try with_reducible rfl))); simp only [Act.put, List.setIfInBounds_toArray, List.set_cons_zero, List.set_cons_succ])
        refine ordL_lone (by rfl) (by rfl) (fun KK hK => ?_)
        try go_simp
        have b5 : Below w4.heap.size w4 (w4.alloc (.cells #[.int .u8 ((({ data := #[c] } : ByteArray)[0]'(Nat.one_pos)).toNat : Nat)] 5)) := Below.alloc (Below.refl _ _) (Nat.le_refl _) _
        have KN : Blk (w4.alloc (.cells #[.int .u8 ((({ data := #[c] } : ByteArray)[0]'(Nat.one_pos)).toNat : Nat)] 5)) w4.heap.size 5 #[.int .u8 c.toNat] := Blk.new _ _ _
        obtain ⟨w5, hw5⟩ : ∃ w5, w5 = w4.alloc (.cells #[.int .u8 ((({ data := #[c] } : ByteArray)[0]'(Nat.one_pos)).toNat : Nat)] 5) := ⟨_, rfl⟩
        rw [← hw5] at b5 KN
        try rw [← hw5]
        refine hK.out _ _ (.inr ((hb4.later b5).cell 1)) ?_
        clear hK KK
        try simp only [Act.put, List.setIfInBounds_toArray, List.set_cons_zero, List.set_cons_succ]
        have hb5 := hb4.later b5
        have n2 := I0.nm.rx
        have n4 := I0.nm.row
        have hrow5 : ORow 5 1 0 w5 (.slice ao l.length cap) l.length (l.map bval) := ((hrow.later D).foot f4 (fun g hg e => by have := n4 g hg; rw [e] at this; omega)).later b5
        refine ordL_lone (by rfl) (by rfl) (fun KK hK => ?_)
        refine wp_append1 info_byteT rfl (by decide) (by decide) Tryz.underlying189 (.tmp 43) (.tmp 47) rfl (.slice ao l.length cap) l.length (l.map bval) rfl hrow5 w4.heap.size rfl [bval c] rfl ?a1 ?a2 (by omega) (Nat.zero_le _) ?a3
        case a1 => intro j u hj; exact (KN.cell j).trans (by simpa using hj)
        case a2 => intro u hu; simp at hu; subst hu; rfl
        case a3 =>
        intro ao6 cap6 w6 o6 g6 gr6
        have hb6 := hb5.grownO g6 hown
        refine hK.out _ _ (.inr (hb6.cell 1)) ?_
        clear hK KK
        try simp only [Act.put, List.setIfInBounds_toArray, List.set_cons_zero, List.set_cons_succ]
        repeat (refine ordL_take (v := ?_) (by rfl) (by rfl) ?_ ?_; rotate_left; (focus (intro w hSw; (try dsimp only at hSw); go_simp; (try with_reducible rfl))); simp only [Act.put, List.setIfInBounds_toArray, List.set_cons_zero, List.set_cons_succ])
        refine ordL_lone (by rfl) (by rfl) (fun KK hK => ?_)
        have dx := hb6.at5
        have hr := Below.refl w6.heap.size w6
        try go_simp
        refine hK.out _ _ (.inl rfl) ?_
        clear hK KK
        try simp only [Act.put, List.setIfInBounds_toArray, List.set_cons_zero, List.set_cons_succ]
        refine ordL_done ?_
        obtain ⟨lab'', I7⟩ := I0.push HF.out r4 f4 b5 o6 g6 gr6
        have hkk : k + 1 + s.length ≤ 4096 := by have := I0.km; simp at this; omega
        clear dx hr hb6 hb5 hb4 hrow5 n2 n4 KN hw5 D FT hb hrow hown lt I0 I3 r4 f4 b5 o6 g6 gr6
        obtain ⟨w7, hw7⟩ : ∃ w7, w7 = w6.setCell ⟨x, 1, none⟩ (.slice ao6 (l.length + 1) cap6) := ⟨_, rfl⟩
        rw [← hw7] at I7
        try rw [← hw7]
        have e3 : IntKind.i64.wrap ((k : Int) + 1) = (k : Int) + 1 := by rw [IntWalk.i64_in _ (by omega)]
        obtain ⟨w8, hw8⟩ : ∃ w8, w8 = w7.setCell ⟨q + 1, 4, none⟩ (.int .i64 ((k : Int) + 1)) := ⟨_, rfl⟩
        have I8 : LkI w w8 q lab lab'' x b rx ra N win (.slice ao6 (l.length + 1) cap6) (nxF N f (c :: s)) (l ++ [c]) l.length p s (k + 1) := by rw [hw8]; exact I7.more hkk
        have HW8 := Lib.hid hw8
        have d5 := I7.b5.at5
        have hr := Below.refl w7.heap.size w7
        have nd : ∀ i, b.in_ i → i ≠ x ∧ (Value.slice ao6 (l.length + 1) cap6).ownBlock ≠ some i := fun i hi => by
          have h1 := I8.nm.arms i hi
          refine ⟨fun e => ?_, fun e => ?_⟩
          · rw [e, I8.nm.x] at h1; omega
          · rw [I8.nm.row i e] at h1; omega
        have FN := Lib.hid (hoNext I8.hol I8.arm nd)
        have I8H := Lib.hid I8
        have HK := Lib.hid hkk
        clear hw7 hw8 I7 nd hkk I8
        go_upto_region 12 with fail
        rw [← HW8.out]
        go_wp2_with fail
        refine FN.out.mono ?_; rintro e w9 ⟨rfl, h9, a9, f9⟩
        have I9 := I8H.out.next h9 a9 f9
        have hlen : (l ++ [c]).length = l.length + 1 := by simp
        have HT1 := hT.out
        clear I8H h9 a9 f9 d5 hr FN HW8 e1 e2 hT HT
        cases hfo : (p.feed c.toNat).2
        · rw [hfo, if_neg (by decide)] at HT1
          have HI9 := Lib.hid I9
          have HT2 := Lib.hid HT1
          have HLEN := Lib.hid hlen
          clear I9 HT1 hlen
          go_wp2_with fail
          go_round
          case rel => exact ⟨lab'', _, _, l ++ [c], _, s, k + 1, by rw [HLEN.out]; exact HI9, HT2⟩
          case measure => rw [cntAt_rng HI9.out.rng, HCN.out]; simp
        · rw [hfo, if_pos rfl] at HT1
          have I9 := Lib.hid I9
          have HT2 := Lib.hid HT1
          have HLEN := Lib.hid hlen
          clear HT1 hlen hfo HCN
          go_upto_region 14 with fail
          have I0 := I9.out
          obtain ⟨⟨⟨pv4, hb⟩, -, -⟩, hrow, hown⟩ := I0.hol
          have hb' : Blk w9 x 194 #[.int .i64 win, .slice ao6 (l.length + 1) cap6, .int .i64 ((l.length : Int) + 1), pv4, .pointer (some ⟨b.x, 0, none⟩)] := hb
          have d5 := I0.b5.at5
          have hr := Below.refl w9.heap.size w9
          have hxq : x ≠ q + 1 := by have := I0.lt.1; have := I0.hq; omega
          have X1 := hb'.drew.far (p := ⟨q + 1, 0, none⟩) hxq (.bool true)
          have X2 := X1.far (p := ⟨q + 1, 2, none⟩) hxq (.int .i64 0)
          refine wp_region_ordL (S := fun w' => w'.cell? ⟨x, 2, none⟩ = some (.int .i64 ((l.length : Int) + 1))) [0, 1, 2, 3, 4, 5, 6, 7, 8, 9, 10] 10 (by kernel_rfl) (by kernel_rfl) (by kernel_rfl) (by kernel_rfl) (by kernel_rfl) (by kernel_rfl) (hb'.drew.cell 2) ?_
          simp only [pickL, List.filterMap_cons, List.filterMap_nil, List.getElem?_cons_zero, List.getElem?_cons_succ]
          repeat (refine ordL_take (v := ?_) (by rfl) (by rfl) ?_ ?_; rotate_left; (focus (intro w hSw; (try dsimp only at hSw); go_simp; (try with_reducible rfl))); simp only [Act.put, List.setIfInBounds_toArray, List.set_cons_zero, List.set_cons_succ])
          have HB1 := Lib.hid (X1.cell 2)
          have HB2 := Lib.hid (X2.cell 2)
          refine ordL_lone (by rfl) (by rfl) (fun KK hK => ?_)
          try go_simp
          refine hK.out _ _ (.inr HB1.out) ?_
          clear hK KK
          try simp only [Act.put, List.setIfInBounds_toArray, List.set_cons_zero, List.set_cons_succ]
          repeat (refine ordL_take (v := ?_) (by rfl) (by rfl) ?_ ?_; rotate_left; (focus (intro w hSw; (try dsimp only at hSw); go_simp; (try with_reducible rfl))); simp only [Act.put, List.setIfInBounds_toArray, List.set_cons_zero, List.set_cons_succ])
          refine ordL_lone (by rfl) (by rfl) (fun KK hK => ?_)
          try go_simp
          refine hK.out _ _ (.inr HB2.out) ?_
          clear hK KK
          try simp only [Act.put, List.setIfInBounds_toArray, List.set_cons_zero, List.set_cons_succ]
          repeat (refine ordL_take (v := ?_) (by rfl) (by rfl) ?_ ?_; rotate_left; (focus (intro w hSw; (try dsimp only at hSw); go_simp; (try with_reducible rfl))); simp only [Act.put, List.setIfInBounds_toArray, List.set_cons_zero, List.set_cons_succ])
          refine ordL_lone (by rfl) (by rfl) (fun KK hK => ?_)
          try go_simp
          refine hK.out _ _ (.inl rfl) ?_
          clear hK KK
          try simp only [Act.put, List.setIfInBounds_toArray, List.set_cons_zero, List.set_cons_succ]
          refine ordL_done ?_
          obtain ⟨wa, hwa⟩ : ∃ wa, (((w9.setCell ⟨q + 1, 0, none⟩ (.bool true)).setCell ⟨q + 1, 2, none⟩ (.int .i64 0)).setCell ⟨q + 1, 3, none⟩ (.int .i64 ((l.length : Int) + 1))).drew = wa := ⟨_, rfl⟩
          have fa : Foot (fun i => i = q ∨ i = q + 1) w9 wa := by
            rw [← hwa]
            exact (foot_set (fun i => i = q ∨ i = q + 1) (foot_set (fun i => i = q ∨ i = q + 1) (foot_set (fun i => i = q ∨ i = q + 1) (Foot.refl _ w9) (q + 1) 0 (.inr rfl) _) (q + 1) 2 (.inr rfl) _) (q + 1) 3 (.inr rfl) _).up (Below.refl _ _).drew
          have mm := Lib.hid (I9.out.mine fa)
          have b4a : Blk wa q 255 #[.bool false, .bool false, .int .i64 0, .int .i64 0, .int .i64 0] := by
            rw [← hwa]
            exact (((I9.out.b4.far (p := ⟨q + 1, 0, none⟩) (by show q ≠ q + 1; omega) _).far (p := ⟨q + 1, 2, none⟩) (by show q ≠ q + 1; omega) _).far (p := ⟨q + 1, 3, none⟩) (by show q ≠ q + 1; omega) _).drew
          have b5a : Blk wa (q + 1) 255 #[.bool true, .bool false, .int .i64 0, .int .i64 ((l.length : Int) + 1), .int .i64 ((k + 1 : Nat) : Int)] := by
            rw [← hwa]
            have := (((I9.out.b5.set_ 0 (.bool true)).set_ 2 (.int .i64 0)).set_ 3 (.int .i64 ((l.length : Int) + 1))).drew
            simpa using this
          try rw [hwa]
          clear hwa d5 hr X1 X2 HB1 HB2 hb hb' hrow hown hxq I0 fa
          obtain ⟨⟨pv6, hba⟩, -, -⟩ := mm.out.1.v
          have hba' : Blk wa x 194 #[.int .i64 win, .slice ao6 (l.length + 1) cap6, .int .i64 ((l.length : Int) + 1), pv6, .pointer (some ⟨b.x, 0, none⟩)] := hba
          have FMt : Calls Tryz.prog 194 #[.pointer (some ⟨x, 0, none⟩), .int .i64 ((l.length : Int) + 1)] wa fun e w' => ∃ bv' b', e = .returned (.tuple #[]) ∧ HolV w' x bv' win 0 0 (.pointer (some ⟨b.x, 0, none⟩)) ∧ bv'.ownBlock = (Value.slice ao6 (l.length + 1) cap6).ownBlock ∧ ArmS w' b' (p.feed c.toNat).1.fresh ∧ b'.x = b.x ∧ (∀ i, b'.in_ i → b.in_ i ∨ wa.heap.size ≤ i) ∧ Foot (fun i => i = x ∨ i = b.x) wa w' := by
            have hcast : (((l ++ [c]).length : Nat) : Int) = (l.length : Int) + 1 := by simp
            have := hoMatch mm.out.1 mm.out.2.1 (by simp) (fun i hi e => by have h1 := I9.out.nm.arms i hi; rw [e, I9.out.nm.x] at h1; omega)
            rwa [hcast] at this
          have FM := Lib.hid FMt
          have dx := hba'.at5
          have hr := Below.refl wa.heap.size wa
          clear FMt hba
          go_wp2_with fail
          refine FM.out.mono ?_; rintro e wb ⟨bv', b', rfl, hv, eo, ab, eb, gb, fb⟩
          have I0 := I9.out
          have n1 := I0.nm.x
          have n2 := I0.nm.rx
          have n3 := I0.nm.ra
          have n4 := I0.nm.row
          have n5 := I0.nm.arms
          have lt := I0.lt
          have hq := I0.hq
          have lbx := lt.2.2.2 b.x (.inl rfl)
          have nbx := n5 b.x (.inl rfl)
          have lqa := b4a.lt
          have rxx : rx ≠ x := fun e => by rw [e] at n2; omega
          have rxb : rx ≠ b.x := fun e => by rw [e] at n2; omega
          have rax : ra ≠ x := fun e => by rw [e] at n3; omega
          have rab : ra ≠ b.x := fun e => by rw [e] at n3; omega
          have b4b := b4a.foot fb (by omega)
          have b5b := b5a.foot fb (by omega)
          clear dx hr FM b4a b5a
          have d4 := b4b.at5
          have d5 := b5b.at5
          have hr := Below.refl wb.heap.size wb
          go_wp2_with fail
          have ff := foot_set5 (F := fun i => i = q) (Foot.refl _ wb) rfl (.bool true) (.bool false) (.int .i64 0) (.int .i64 ((l.length : Int) + 1)) (.int .i64 ((k : Int) + 1))
          have s9a := I0.foot.size
          have mm := mm.out
          have sa := mm.2.2.2.size
          have sb := fb.size
          have lv := hv.lt
          have lba := ab.lt
          have lnew : ∀ g, bv'.ownBlock = some g → lab'' g = 23 ∧ g < wa.heap.size := fun g hg => ⟨n4 g (eo ▸ hg), (mm.1.row.lt g (eo ▸ hg)).2⟩
          (try simp only [Exit.inBlock, Exit.then])
          refine bodyPost_ret (v := .agg #[.bool true, .bool false, .int .i64 0, .int .i64 ((l.length : Int) + 1), .int .i64 ((k : Int) + 1)]) ?_ rfl ⟨labNew lab'' wa 24, bv', b', nxF N f (c :: s), ?_, ?_, ⟨?_, ?_, ?_, ?_, ?_⟩, eb, ?_, ?_, ?_, ?_, ?_, fun g hg => by have := (lnew g hg).2; have := ff.size; omega⟩
          · rw [results_cell_one rfl]
            go_simp
          · rw [← HT2.out]; rfl
          · exact I0.eq.trans (labNew_eq _ _ _) sa
          · rw [labNew_old (by omega)]; exact n1
          · intro g hg
            rw [labNew_old (lnew g hg).2]; exact (lnew g hg).1
          · intro i hi
            rcases gb i hi with h | h
            · rw [labNew_old (by have := lt.2.2.2 i h; omega)]; exact n5 i h
            · exact labNew_new h
          · rw [labNew_old (by omega)]; exact n2
          · rw [labNew_old (by omega)]; exact n3
          · rw [← HT2.out]; exact hv.foot ff (by omega)
          · rw [← HT2.out]; intro hh; cases hh
          · rw [← HT2.out]
            refine ab.foot ff (fun i hi => ?_)
            rcases gb i hi with h | h
            · have := lt.2.2.2 i h; omega
            · omega
          · rw [← HT2.out]
            exact (mm.2.2.1.foot fb (by omega) (by omega)).foot ff (by omega) (by omega)
          · refine (mm.2.2.2.then fb (fun i hi h => ?_)).then ff (fun i hi h => by omega)
            rw [← I0.eq i hi]
            show 20 ≤ lab'' i ∧ lab'' i ≤ 24
            rcases h with rfl | rfl <;> omega
end Go.Proofs.YtbhgmccaecmpjaaGreat
