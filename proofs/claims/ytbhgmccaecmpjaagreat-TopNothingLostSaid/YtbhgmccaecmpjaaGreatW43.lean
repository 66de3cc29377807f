/-
  engine.Engine: Round.
  Conditions: the blocks are known; what the parts of the round want is handed in.
-/
import Derived.Test.YtbhgmccaecmpjaaGreatW42
namespace Go.Proofs.YtbhgmccaecmpjaaGreat
set_option linter.unusedVariables false
set_option linter.unusedSimpArgs false
open Go.RowKit

/-- Where a round stands. -/
structure RdI (w wk : World) (lab labk : Nat → Nat) (eb ebk : EB) (c : ScT) (Ek : ET) (q : Nat) (R : RdT) (rb : RB) (rv : Array Value) : Prop where
  h : EngR wk labk ebk c Ek
  x : ebk.x = eb.x
  kq : Blk wk q 39 rv
  q : ¬ isE (labk q)
  at_ : RAt wk R rb
  off : ROff labk R rb
  f : Foot (fun i => isE (lab i)) w wk
  le : LabLe lab labk w
theorem RdI.step {w wk w' : World} {lab labk : Nat → Nat} {eb ebk : EB} {c : ScT} {Ek : ET} {q : Nat} {R : RdT} {rb : RB} {rv : Array Value} {T : ET → Prop} (h : RdI w wk lab labk eb ebk c Ek q R rb rv) (hs : StG eb.x c wk labk T w') : ∃ lab' eb' E', T E' ∧ RdI w w' lab lab' eb eb' c E' q R rb rv := by
  obtain ⟨lab', eb', E', h1, h2, h3, h4, h5⟩ := hs
  exact ⟨lab', eb', E', h1, h3, h4, h.kq.foot h5 h.q, fun hq => h.q (h2 q h.kq.lt hq), h.at_.foot h.off h5, h.off.le h.at_ h2, h.f.then h5 (fun i hi he => h.le i hi he), h.le.trans h2 h.f.size⟩
theorem RdI.later {w wk w' : World} {lab labk : Nat → Nat} {eb ebk : EB} {c : ScT} {Ek : ET} {q : Nat} {R : RdT} {rb : RB} {rv : Array Value} (h : RdI w wk lab labk eb ebk c Ek q R rb rv) (b : Below wk.heap.size wk w') : RdI w w' lab labk eb ebk c Ek q R rb rv :=
  ⟨h.h.later b, h.x, h.kq.later b, h.q, h.at_.later b, h.off, h.f.up b, h.le⟩
theorem stTell {w : World} {lab : Nat → Nat} {eb : EB} {c : ScT} {E : ET} (h : EngR w lab eb c E) (hl : E.out.length ≤ 1000000) (k i n t : Int) (b : ByteArray) (er s0 s1 s2 s3 s4 s5 : Int) :
    Calls Tryz.prog 26 #[.pointer (some ⟨eb.x, 0, none⟩), .agg #[.int .i64 k, .int .i64 i, .int .i64 n, .int .i64 t, .string b, .int .i64 er, .int .i64 s0, .int .i64 s1, .int .i64 s2, .int .i64 s3, .int .i64 s4, .int .i64 s5]] w fun e w' => e = .returned (.tuple #[]) ∧ StG eb.x c w lab (fun E1 => E1 = { E with out := E.out ++ [⟨k, i, n, t, b, er, s0, s1, s2, s3, s4, s5⟩] }) w' :=
  (enTell h (by simp) (by simp) hl k i n t b er s0 s1 s2 s3 s4 s5).mono fun e w' ⟨lab', ov, h1, h2, h3, h4⟩ => ⟨h1, lab', _, _, rfl, h2.le, h3, rfl, h4.mono (fun i hi => by unfold isE; omega)⟩
set_option maxRecDepth 100000 in
set_option maxHeartbeats 8000000 in
theorem enRound {w : World} {lab : Nat → Nat} {eb : EB} {c : ScT} {E : ET} {R : RdT} {rb : RB} {J : Nat → ET → Prop} (h : EngR w lab eb c E) (hcf : c.fit) (hR : RAt w R rb) (hO : ROff lab R rb) (hJ : JOk c J) (hk : RndOk c R E J) :
    Calls Tryz.prog 16 #[.pointer (some ⟨eb.x, 0, none⟩), .agg #[.int .i64 R.tk, sl1 R.op rb.go rb.co, sl1 R.of.isSome rb.gf rb.cf, sl1 R.rp.isSome rb.gr rb.cr, .int .i64 0, .bool false]] w fun e w' => ∃ lab' eb' E', e = .returned eb'.ov ∧ RoundTo c R E E' ∧ LabLe lab lab' w ∧ EngR w' lab' eb' c E' ∧ eb'.x = eb.x ∧ Foot (fun i => isE (lab i)) w w' := by
  obtain ⟨o1, n1, hv1⟩ := sl1_form R.op rb.go rb.co
  obtain ⟨o2, n2, hv2⟩ := sl1_form R.of.isSome rb.gf rb.cf
  obtain ⟨o3, n3, hv3⟩ := sl1_form R.rp.isSome rb.gr rb.cr
  have HV := Lib.hid (And.intro hv1 (And.intro hv2 hv3))
  rw [hv1, hv2, hv3]
  clear hv1 hv2 hv3
  obtain ⟨rv, hrv⟩ : ∃ rv : Array Value, rv = #[.int .i64 R.tk, .slice o1 n1 rb.co, .slice o2 n2 rb.cf, .slice o3 n3 rb.cr, .int .i64 0, .bool false] := ⟨_, rfl⟩
  obtain ⟨q, hq⟩ : ∃ q, w.heap.size = q := ⟨_, rfl⟩
  obtain ⟨w1, hw1⟩ : ∃ w1, w1 = w.alloc (.cells #[.int .i64 R.tk, .slice o1 n1 rb.co, .slice o2 n2 rb.cf, .slice o3 n3 rb.cr, .int .i64 0, .bool false] 39) := ⟨_, rfl⟩
  have b1 : Below w.heap.size w w1 := by rw [hw1]; exact Below.alloc (Below.refl _ _) (Nat.le_refl _) _
  have K1 : Blk w1 q 39 #[.int .i64 R.tk, .slice o1 n1 rb.co, .slice o2 n2 rb.cf, .slice o3 n3 rb.cr, .int .i64 0, .bool false] := by rw [hw1, ← hq]; exact Blk.new _ _ _
  obtain ⟨lab0, e0, n0⟩ : ∃ lab0, LabEq lab lab0 w ∧ ∀ i, w.heap.size ≤ i → lab0 i = 0 := ⟨labNew lab w 0, labNew_eq _ _ _, fun i hi => labNew_new hi⟩
  have hq0 : ¬ isE (lab0 q) := by rw [n0 q (by omega)]; unfold isE; omega
  have I1 : RdI w w1 lab lab0 eb eb c E q R rb rv := ⟨(h.relab e0).later b1, rfl, by rw [hrv]; exact K1, hq0, hR.later b1, hO.le hR e0.le, Foot.later b1, e0.le⟩
  have QX : eb.x ≠ q := fun e => by have := h.lb.x.2; omega
  have HRV := Lib.hid hrv
  have HW1 := Lib.hid hw1
  have HQ := Lib.hid hq
  have HJ := Lib.hid hJ
  have HK := Lib.hid hk
  have HCF := Lib.hid hcf
  have hrd : 0 ≤ E.rounds ∧ E.rounds ≤ 1000000 := hk.rounds
  obtain ⟨t1, t2, t3⟩ := hk.tk
  clear hrv hw1 hq hJ hk hcf h hR hO b1 hq0 e0 n0
  have X1 := I1.h.blk (by simp)
  have HI1 := Lib.hid I1
  clear I1
  go_enter Tryz.func16, Tryz.ntmps16
  go_upto_region 1 with fail
  rw [← HW1.out, HQ.out]
  have d1 : ∀ w', Below w1.heap.size w1 w' → w'.cell? ⟨eb.x, 13, none⟩ = some (.int .i64 E.rounds) ∧ w'.frozen? ⟨eb.x, 13, none⟩ = false ∧ w'.cell? ⟨eb.x, 16, none⟩ = some eb.ov ∧ w'.frozen? ⟨eb.x, 16, none⟩ = false := fun w' hb => ⟨(X1.later hb).cell 13, (X1.later hb).frozen 13, (X1.later hb).cell 16, (X1.later hb).frozen 16⟩
  have hr := Below.refl w1.heap.size w1
  have HQX := Lib.hid QX
  have X1' := Lib.hid X1
  clear QX X1
  go_upto_region 5 with fail
  obtain ⟨w5, hw5⟩ : ∃ w5, w5 = (w1.setCell ⟨eb.x, 16, none⟩ (.slice none 0 0)).setCell ⟨eb.x, 13, none⟩ (.int .i64 (E.rounds + 1)) := ⟨_, rfl⟩
  rw [← hw5]
  have X5 : Blk w5 eb.x 87 (((E.cells eb c).setIfInBounds 16 (.slice none 0 0)).setIfInBounds 13 (.int .i64 (E.rounds + 1))) := by rw [hw5]; exact (X1'.out.set_ 16 _).set_ 13 _
  have f5 : Foot (fun i => i = eb.x) w1 w5 := by rw [hw5]; exact foot_set (fun i => i = eb.x) (foot_set (fun i => i = eb.x) (Foot.refl _ w1) eb.x 16 rfl _) eb.x 13 rfl _
  have Kq5 : Blk w5 q 39 #[.int .i64 R.tk, .slice o1 n1 rb.co, .slice o2 n2 rb.cf, .slice o3 n3 rb.cr, .int .i64 0, .bool false] := K1.foot f5 (fun e => HQX.out e.symm)
  have s5 : w5.drew.cell? ⟨eb.x, 12, none⟩ = some (.int .i64 E.clock) ∧ w5.drew.frozen? ⟨eb.x, 12, none⟩ = false ∧ w5.drew.cell? ⟨q, 0, none⟩ = some (.int .i64 R.tk) := ⟨X5.drew.cell 12, X5.drew.frozen 12, Kq5.drew.cell 0⟩
  have hm : min (E.clock + R.tk) 9223372036854775806 = E.clock + R.tk := by omega
  have FA : Hid (∀ w, Calls Tryz.prog 25 #[.int .i64 E.clock, .int .i64 R.tk] w fun e w' => e = .returned (.int .i64 (E.clock + R.tk)) ∧ w = w') := Lib.hid fun w => by
    have := tAdd E.clock R.tk w (by unfold i64; omega) (by unfold i64; omega)
    have e : addT E.clock R.tk = E.clock + R.tk := by
      have e1 : ownT E.clock = E.clock := by unfold ownT; rw [if_neg (by omega)]
      have e2 : ownT R.tk = R.tk := by unfold ownT; rw [if_neg (by omega)]
      unfold addT
      rw [e1, e2, if_neg (by unfold nev; omega)]
    rwa [e] at this
  have HF5 := Lib.hid f5
  have HX5 := Lib.hid X5
  have HKQ5 := Lib.hid Kq5
  have HS5 := Lib.hid s5
  have HT := Lib.hid (And.intro t1 (And.intro t2 t3))
  clear d1 hr hw5 f5 X5 Kq5 K1 t1 t2 t3 X1' HW1
  go_upto_region 5 with fail
  refine wp_region_ordL (S := fun w' => w'.cell? ⟨eb.x, 12, none⟩ = some (.int .i64 E.clock) ∧ w'.frozen? ⟨eb.x, 12, none⟩ = false ∧ w'.cell? ⟨q, 0, none⟩ = some (.int .i64 R.tk)) [0, 1, 2, 3, 4, 5, 6, 7, 8, 9, 10, 11] 11 (by kernel_rfl) (by kernel_rfl) (by kernel_rfl) (by kernel_rfl) (by kernel_rfl) (by kernel_rfl) (s5) ?_
  simp only [pickL, List.filterMap_cons, List.filterMap_nil, List.getElem?_cons_zero, List.getElem?_cons_succ]
  repeat (refine ordL_take (v := ?_) (by rfl) (by rfl) ?_ ?_; rotate_left; (focus (intro w hSw; (try dsimp only at hSw); go_simp; (try with_reducible rfl))); simp only [Act.put, List.setIfInBounds_toArray, List.set_cons_zero, List.set_cons_succ])
  refine ordL_lone (by rfl) (by rfl) (fun KK hK => ?_)
  try go_simp
  refine (FA.out _).mono ?_; rintro r w6 ⟨rfl, rfl⟩
  skip
  refine hK.out _ _ (.inr (HS5.out)) ?_
  clear hK KK
  try simp only [Act.put, List.setIfInBounds_toArray, List.set_cons_zero, List.set_cons_succ]
  repeat (refine ordL_take (v := ?_) (by rfl) (by rfl) ?_ ?_; rotate_left; (focus (intro w hSw; (try dsimp only at hSw); go_simp; (try with_reducible rfl))); simp only [Act.put, List.setIfInBounds_toArray, List.set_cons_zero, List.set_cons_succ])
  refine ordL_lone (by rfl) (by rfl) (fun KK hK => ?_)
  try go_simp
  refine hK.out _ _ (.inl (by trivial)) ?_
  clear hK KK
  try simp only [Act.put, List.setIfInBounds_toArray, List.set_cons_zero, List.set_cons_succ]
  refine ordL_done ?_
  have X7 := (HX5.out.set_ 12 (.int .i64 (E.clock + R.tk))).drew
  have f7 : Foot (fun i => i = eb.x) w1 (w5.setCell ⟨eb.x, 12, none⟩ (.int .i64 (E.clock + R.tk))).drew := (foot_set (fun i => i = eb.x) HF5.out eb.x 12 rfl (.int .i64 (E.clock + R.tk))).trans (Foot.later (Below.refl _ _).drew)
  have T7 := HI1.out.h.begun f7 (clock := E.clock + R.tk) (rounds := E.rounds + 1) X7
  have lx := HI1.out.h.lb.x
  have g7 : Foot (fun i => isE (lab0 i)) w1 (w5.setCell ⟨eb.x, 12, none⟩ (.int .i64 (E.clock + R.tk))).drew := f7.mono (fun i hi => by rw [hi, lx.1]; unfold isE; omega)
  obtain ⟨lab7, eb7, E7, hT7, I7⟩ := HI1.out.step (T := fun E1 => E1 = { E with clock := E.clock + R.tk, rounds := E.rounds + 1, out := [] }) ⟨lab0, _, _, rfl, LabLe.refl _ _, T7, rfl, g7⟩
  obtain ⟨w7, hw7⟩ : ∃ w7, w7 = (w5.setCell ⟨eb.x, 12, none⟩ (.int .i64 (E.clock + R.tk))).drew := ⟨_, rfl⟩
  rw [← hw7] at I7
  rw [← hw7]
  have I7 := Lib.hid I7
  clear hw7 g7 lx T7 f7 X7 s5 HS5 HKQ5 HX5 HF5 FA hm
  have d1 := I7.out.h.at_ (by simp)
  rw [I7.out.x, hT7] at d1
  dsimp only at d1
  have hr := Below.refl w7.heap.size w7
  have FX : Hid (∀ w', Below w7.heap.size w7 w' → Calls Tryz.prog 26 #[.pointer (some ⟨eb.x, 0, none⟩), .agg #[.int .i64 1, .int .i64 0, .int .i64 0, .int .i64 (E.clock + R.tk), .string ⟨#[]⟩, .int .i64 0, .int .i64 0, .int .i64 0, .int .i64 0, .int .i64 0, .int .i64 0, .int .i64 0]] w' fun e w'' => e = .returned (.tuple #[]) ∧ StG eb.x c w7 lab7 (fun E1 => E1 = begE E R.tk) w'') := Lib.hid fun w' hb => by
    have := stTell (I7.out.h.later hb) (by rw [hT7]; exact Nat.zero_le _) 1 0 0 (E.clock + R.tk) ⟨#[]⟩ 0 0 0 0 0 0 0
    rw [I7.out.x, hT7] at this
    exact this.mono fun e w'' ⟨h1, h2⟩ => ⟨h1, StG.of hb h2⟩
  go_wp2_with fail
  refine (FX.out _ (by (repeat' (first | exact Below.refl _ _ | assumption | exact And.left (by assumption) | apply bel_alloc | apply Below.drew)))).mono ?_; rintro r w8 ⟨rfl, hs⟩
  have hs : StG eb.x c w7 lab7 (fun E1 => E1 = begE E R.tk) w8 := hs
  obtain ⟨lab8, eb8, E8, hT8, I8⟩ := I7.out.step hs
  clear FX hr d1 hs hT7 I7
  subst hT8
  have I8 := Lib.hid I8
  have hr := Below.refl w8.heap.size w8
  have dq : ∀ w', Below w8.heap.size w8 w' → w'.cell? ⟨q, 0, none⟩ = some (.int .i64 R.tk) ∧ w'.cell? ⟨q, 1, none⟩ = some (.slice o1 n1 rb.co) ∧ w'.cell? ⟨q, 2, none⟩ = some (.slice o2 n2 rb.cf) ∧ w'.cell? ⟨q, 3, none⟩ = some (.slice o3 n3 rb.cr) ∧ w'.cell? ⟨q, 4, none⟩ = some (.int .i64 0) ∧ w'.cell? ⟨q, 5, none⟩ = some (.bool false) := fun w' hb => by
    have k := I8.out.kq.later hb
    rw [HRV.out] at k
    exact ⟨k.cell 0, k.cell 1, k.cell 2, k.cell 3, k.cell 4, k.cell 5⟩
  have FX : Hid (∀ w', Below w8.heap.size w8 w' → Calls Tryz.prog 27 #[.slice o1 n1 rb.co, .func (.func 28) #[.pointer (some ⟨eb.x, 0, none⟩)] #[]] w' fun e w'' => e = .returned (.tuple #[]) ∧ StG eb.x c w8 lab8 (fun E1 => E1 = opnE c (begE E R.tk) R.op) w'') := Lib.hid fun w' hb => by
    have := stOpen (I8.out.h.later hb) (I8.out.at_.later hb) HK.out.op (by have := HT.out; show 0 ≤ E.clock + R.tk ∧ E.clock + R.tk ≤ 1000000000000; omega) (by show 1 ≤ 900000; decide)
    rw [I8.out.x, HV.out.1] at this
    exact this.mono fun e w'' ⟨h1, h2⟩ => ⟨h1, StG.of hb h2⟩
  go_wp2_with fail
  refine (FX.out _ (by (repeat' (first | exact Below.refl _ _ | assumption | exact And.left (by assumption) | apply bel_alloc | apply Below.drew)))).mono ?_; rintro r w9 ⟨rfl, hs⟩
  have hs : StG eb.x c w8 lab8 (fun E1 => E1 = opnE c (begE E R.tk) R.op) w9 := hs
  obtain ⟨lab9, eb9, E9, hT9, I9⟩ := I8.out.step hs
  clear FX hr dq hs I8
  subst hT9
  have I9 := Lib.hid I9
  have hr := Below.refl w9.heap.size w9
  have dq : ∀ w', Below w9.heap.size w9 w' → w'.cell? ⟨q, 0, none⟩ = some (.int .i64 R.tk) ∧ w'.cell? ⟨q, 1, none⟩ = some (.slice o1 n1 rb.co) ∧ w'.cell? ⟨q, 2, none⟩ = some (.slice o2 n2 rb.cf) ∧ w'.cell? ⟨q, 3, none⟩ = some (.slice o3 n3 rb.cr) ∧ w'.cell? ⟨q, 4, none⟩ = some (.int .i64 0) ∧ w'.cell? ⟨q, 5, none⟩ = some (.bool false) := fun w' hb => by
    have k := I9.out.kq.later hb
    rw [HRV.out] at k
    exact ⟨k.cell 0, k.cell 1, k.cell 2, k.cell 3, k.cell 4, k.cell 5⟩
  have FX : Hid (∀ w', Below w9.heap.size w9 w' → Calls Tryz.prog 29 #[.slice o2 n2 rb.cf, .func (.func 30) #[.pointer (some ⟨eb.x, 0, none⟩)] #[]] w' fun e w'' => e = .returned (.tuple #[]) ∧ StG eb.x c w9 lab9 (fun E1 => E1 = offE (opnE c (begE E R.tk) R.op) R.of) w'') := Lib.hid fun w' hb => by
    have := stOffer (I9.out.h.later hb) (I9.out.at_.later hb) HK.out.of
    rw [I9.out.x, HV.out.2.1] at this
    exact this.mono fun e w'' ⟨h1, h2⟩ => ⟨h1, StG.of hb h2⟩
  go_wp2_with fail
  refine (FX.out _ (by (repeat' (first | exact Below.refl _ _ | assumption | exact And.left (by assumption) | apply bel_alloc | apply Below.drew)))).mono ?_; rintro r w10 ⟨rfl, hs⟩
  have hs : StG eb.x c w9 lab9 (fun E1 => E1 = offE (opnE c (begE E R.tk) R.op) R.of) w10 := hs
  obtain ⟨lab10, eb10, E10, hT10, I10⟩ := I9.out.step hs
  clear FX hr dq hs I9
  subst hT10
  have I10 := Lib.hid I10
  have hr := Below.refl w10.heap.size w10
  have dq : ∀ w', Below w10.heap.size w10 w' → w'.cell? ⟨q, 0, none⟩ = some (.int .i64 R.tk) ∧ w'.cell? ⟨q, 1, none⟩ = some (.slice o1 n1 rb.co) ∧ w'.cell? ⟨q, 2, none⟩ = some (.slice o2 n2 rb.cf) ∧ w'.cell? ⟨q, 3, none⟩ = some (.slice o3 n3 rb.cr) ∧ w'.cell? ⟨q, 4, none⟩ = some (.int .i64 0) ∧ w'.cell? ⟨q, 5, none⟩ = some (.bool false) := fun w' hb => by
    have k := I10.out.kq.later hb
    rw [HRV.out] at k
    exact ⟨k.cell 0, k.cell 1, k.cell 2, k.cell 3, k.cell 4, k.cell 5⟩
  have FX : Hid (∀ w', Calls Tryz.prog 31 #[.pointer (some ⟨eb.x, 0, none⟩), .agg #[.int .i64 R.tk, .slice o1 n1 rb.co, .slice o2 n2 rb.cf, .slice o3 n3 rb.cr, .int .i64 0, .bool false]] w' fun e w'' => e = .returned (.tuple #[]) ∧ Below w'.heap.size w' w'') := Lib.hid fun w' => enDrain eb.x R.tk o1 o2 o3 n1 rb.co n2 rb.cf n3 rb.cr
  go_wp2_with fail
  refine (FX.out _).mono ?_; rintro r w11 ⟨rfl, b11⟩
  have b11' : Below w10.heap.size w10 w11 := by first | exact b11 | exact (Below.refl w10.heap.size w10).drew.up b11
  obtain ⟨lab11, hlab11⟩ : ∃ l, l = lab10 := ⟨_, rfl⟩
  have I11 := Lib.hid (I10.out.later b11')
  rw [← hlab11] at I11
  clear hlab11 FX hr dq b11 b11' I10
  have hr := Below.refl w11.heap.size w11
  have dq : ∀ w', Below w11.heap.size w11 w' → w'.cell? ⟨q, 0, none⟩ = some (.int .i64 R.tk) ∧ w'.cell? ⟨q, 1, none⟩ = some (.slice o1 n1 rb.co) ∧ w'.cell? ⟨q, 2, none⟩ = some (.slice o2 n2 rb.cf) ∧ w'.cell? ⟨q, 3, none⟩ = some (.slice o3 n3 rb.cr) ∧ w'.cell? ⟨q, 4, none⟩ = some (.int .i64 0) ∧ w'.cell? ⟨q, 5, none⟩ = some (.bool false) := fun w' hb => by
    have k := I11.out.kq.later hb
    rw [HRV.out] at k
    exact ⟨k.cell 0, k.cell 1, k.cell 2, k.cell 3, k.cell 4, k.cell 5⟩
  have FX : Hid (∀ w', Below w11.heap.size w11 w' → Calls Tryz.prog 32 #[.slice o3 n3 rb.cr, .func (.func 33) #[.pointer (some ⟨eb.x, 0, none⟩)] #[]] w' fun e w'' => e = .returned (.tuple #[]) ∧ StG eb.x c w11 lab11 (RepTo c R.rp (offE (opnE c (begE E R.tk) R.op) R.of)) w'') := Lib.hid fun w' hb => by
    have := stReport (I11.out.h.later hb) (I11.out.at_.later hb) HK.out.rp
    rw [I11.out.x, HV.out.2.2] at this
    exact this.mono fun e w'' ⟨h1, h2⟩ => ⟨h1, StG.of hb h2⟩
  go_wp2_with fail
  refine (FX.out _ (by (repeat' (first | exact Below.refl _ _ | assumption | exact And.left (by assumption) | apply bel_alloc | apply Below.drew)))).mono ?_; rintro r w12 ⟨rfl, hs⟩
  have hs : StG eb.x c w11 lab11 (RepTo c R.rp (offE (opnE c (begE E R.tk) R.op) R.of)) w12 := hs
  obtain ⟨lab12, eb12, E12, hT12, I12⟩ := I11.out.step hs
  clear FX hr dq hs I11
  have HT12 := Lib.hid hT12
  have HWK := Lib.hid (HK.out.wk E12 hT12)
  clear hT12
  have I12 := Lib.hid I12
  have d1 := I12.out.h.at_ (by simp)
  rw [I12.out.x] at d1
  have hr := Below.refl w12.heap.size w12
  have FD : Hid (∀ w', Below w12.heap.size w12 w' → Calls Tryz.prog 35 #[.pointer (some ⟨eb12.hx, 0, none⟩), .int .i64 E12.clock] w' fun e w'' => ∃ (on : Bool) (g cap : Nat) (u : Int) (E1 : ET) (lab' : Nat → Nat) (eb' : EB), e = .returned (sl1 on g cap) ∧ Hid (RdI w w'' lab lab' eb eb' c E1 q R rb rv) ∧ Hid (∀ w3, Below w''.heap.size w'' w3 → on = true → w3.cell? ⟨g, 0, none⟩ = some (.int .i64 u) ∧ w3.cell? ⟨g, 1, none⟩ = some (.int .i64 0)) ∧ Hid ((on = false ∧ E1 = E12 ∧ ∀ t, E12.tm = some t → dueB t E12.clock = false) ∨ (on = true ∧ E12.tm = some u ∧ dueB u E12.clock = true ∧ E1 = { E12 with tm := none })) ∧ w''.cell? ⟨eb.x, 10, none⟩ = some (.pointer (some ⟨eb12.hx, 0, none⟩)) ∧ w''.cell? ⟨eb.x, 12, none⟩ = some (.int .i64 E12.clock)) := Lib.hid fun w' hb => by
    have hI := I12.out.later hb
    refine (stDue hI.h).mono fun e w'' ⟨lv', on, g, cap, u, E1, h1, h2, h3, h4, h5⟩ => ?_
    obtain ⟨lab', eb', E', hE, hI'⟩ := hI.step (T := fun E2 => E2 = E1) ⟨lab12, _, E1, rfl, LabLe.refl _ _, h2, hI.x, h4⟩
    subst hE
    have d := h2.at_ (by simp) w'' (Below.refl _ _)
    have hc : E'.clock = E12.clock := by rcases h5 with ⟨_, h, _⟩ | ⟨_, _, _, h⟩ <;> rw [h]
    have hx := hI.x
    refine ⟨on, g, cap, u, E', lab', eb', h1, Lib.hid hI', Lib.hid h3, Lib.hid h5, ?_, ?_⟩
    · have := d.2.2.2.2.2.2.2.2.2.2.1
      rw [← hx]; exact this
    · have := d.2.2.2.2.2.2.2.2.2.2.2.2.1
      rw [← hx, ← hc]; exact this
  have s12 : w12.drew.cell? ⟨eb.x, 10, none⟩ = some (.pointer (some ⟨eb12.hx, 0, none⟩)) ∧ w12.drew.cell? ⟨eb.x, 12, none⟩ = some (.int .i64 E12.clock) := by
    have d := d1 w12.drew hr.drew
    exact ⟨d.2.2.2.2.2.2.2.2.2.2.1, d.2.2.2.2.2.2.2.2.2.2.2.2.1⟩
  clear d1
  go_upto_region 11 with fail
  refine wp_region_ordL (S := fun w' => w'.cell? ⟨eb.x, 10, none⟩ = some (.pointer (some ⟨eb12.hx, 0, none⟩)) ∧ w'.cell? ⟨eb.x, 12, none⟩ = some (.int .i64 E12.clock)) [0, 1, 2, 3, 4, 5, 6, 7, 9, 10, 8, 11] 11 (by kernel_rfl) (by kernel_rfl) (by kernel_rfl) (by kernel_rfl) (by kernel_rfl) (by kernel_rfl) (s12) ?_
  simp only [pickL, List.filterMap_cons, List.filterMap_nil, List.getElem?_cons_zero, List.getElem?_cons_succ]
  repeat (refine ordL_take (v := ?_) (by rfl) (by rfl) ?_ ?_; rotate_left; (focus (intro w hSw; (try dsimp only at hSw); go_simp; (try with_reducible rfl))); simp only [Act.put, List.setIfInBounds_toArray, List.set_cons_zero, List.set_cons_succ])
  refine ordL_lone (by rfl) (by rfl) (fun KK hK => ?_)
  try go_simp
  refine (FD.out _ hr.drew).mono ?_; rintro r w13 ⟨on, g, cap, u, E13, lab13, eb13, rfl, I13, HG, HDu, s13⟩
  skip
  refine hK.out _ _ (.inr (s13)) ?_
  clear hK KK
  try simp only [Act.put, List.setIfInBounds_toArray, List.set_cons_zero, List.set_cons_succ]
  repeat (refine ordL_take (v := ?_) (by rfl) (by rfl) ?_ ?_; rotate_left; (focus (intro w hSw; (try dsimp only at hSw); go_simp; (try with_reducible rfl))); simp only [Act.put, List.setIfInBounds_toArray, List.set_cons_zero, List.set_cons_succ])
  have FW : Hid (Calls Tryz.prog 34 #[sl1 on g cap, .func (.func 36) #[.pointer (some ⟨eb.x, 0, none⟩)] #[]] w13 fun e w' => e = .returned (.tuple #[]) ∧ StG eb.x c w13 lab13 (fun E1 => E1 = wakeE c E12) w') := Lib.hid (by
    have hc : on = true → ∃ t, E13.d = some t ∧ EasyD E13 t := fun ho => by
      rcases HDu.out with ⟨h, _⟩ | ⟨_, h2, h3, h4⟩
      · rw [ho] at h; cases h
      · obtain ⟨t, h5, h6⟩ := HWK.out.1 u h2
        rw [h4]; exact ⟨t, h5, h6⟩
    have := stWake (cap := cap) I13.out.h HG.out hc
    rw [I13.out.x] at this
    refine this.mono fun e w' ⟨h1, lab', eb', E1, h2, h3⟩ => ⟨h1, lab', eb', E1, ?_, h3⟩
    rcases HDu.out with ⟨g1, g2, g3⟩ | ⟨g1, g2, g3, g4⟩
    · rcases h2 with ⟨_, h2⟩ | ⟨h2, _⟩
      · rw [h2, g2]
        unfold wakeE
        split
        · rename_i u' t' hu ht
          rw [if_neg (by rw [g3 _ hu]; decide)]
        · rfl
      · rw [g1] at h2; cases h2
    · rcases h2 with ⟨h2, _⟩ | ⟨_, t, ht, h2⟩
      · rw [g1] at h2; cases h2
      · rw [g4] at ht h2
        have ht : E12.d = some t := ht
        unfold wakeE
        split
        · rename_i u' t' hu htt
          rw [g2] at hu
          rw [ht] at htt
          cases hu
          cases htt
          rw [if_pos g3]
          exact h2
        · rename_i hno
          exact absurd ht (hno u t g2))
  refine ordL_lone (by rfl) (by rfl) (fun KK hK => ?_)
  try go_simp
  refine (FW.out).mono ?_; rintro r w14 ⟨rfl, hs⟩
  refine hK.out _ _ (.inl (by trivial)) ?_
  clear hK KK
  try simp only [Act.put, List.setIfInBounds_toArray, List.set_cons_zero, List.set_cons_succ]
  refine ordL_done ?_
  obtain ⟨lab14, eb14, E14, hT14, I14⟩ := I13.out.step hs
  subst hT14
  have I14 := Lib.hid I14
  clear hs FW s13 s12 HG HDu I13 FD hr I12
  go_wp2_with fail
  have HJ0 : Hid (J c.v (wakeE c E12)) := Lib.hid HWK.out.2
  have hv := I14.out.h.ok.v
  clear HWK
  go_loopw [5] (fun iv wr => ∃ (k : Nat) (lab' : Nat → Nat) (eb' : EB) (E' : ET), iv = .int .i64 k ∧ k ≤ c.v ∧ Hid (RdI w wr lab lab' eb eb' c E' q R rb rv) ∧ Hid (J (c.v - k) E') ∧ Hid (∀ E'', TurnsTo c (c.v - k) E' E'' → TurnsTo c c.v (wakeE c E12) E'')) (fun iv _ => c.v - (intOf iv).toNat)
  case atStart => exact ⟨0, lab14, eb14, _, rfl, by omega, I14, HJ0, Lib.hid fun E'' h => h⟩
  case round =>
    clear I14 HJ0
    obtain ⟨k, labk, ebk, Ek, rfl, hk, Ik, Jk, Tk⟩ := hrel
    have d1 := Ik.out.h.at_ (by simp)
    rw [Ik.out.x] at d1
    have hr := Below.refl wr.heap.size wr
    by_cases hlt : k < c.v
    · have e1 : (k : Int) < (c.v : Int) := by omega
      obtain ⟨m, hm⟩ : ∃ m, c.v - k = m + 1 := ⟨c.v - k - 1, by omega⟩
      have HM := Lib.hid hm
      rw [hm] at Jk Tk
      have FT : Hid (∀ w', Below wr.heap.size wr w' → Calls Tryz.prog 37 #[.pointer (some ⟨eb.x, 0, none⟩)] w' fun e w'' => e = .returned (.bool Ek.waits) ∧ StG eb.x c wr labk (fun E1 => (Ek.waits = true ∧ TurnTo c (tuB c Ek) E1 ∧ J m E1) ∨ (Ek.waits = false ∧ E1 = Ek)) w'') := Lib.hid fun w' hb => by
        have := stTurn (Ik.out.h.later hb) HCF.out HJ.out Jk.out
        rw [Ik.out.x] at this
        exact this.mono fun e w'' ⟨h1, h2⟩ => ⟨h1, StG.of hb h2⟩
      clear hm
      cases hq : Ek.waits
      · rw [hq] at FT
        have HQ2 := Lib.hid hq
        clear hq
        go_wp2_with fail
        refine (FT.out _ (by (repeat' (first | exact Below.refl _ _ | assumption | exact And.left (by assumption) | apply bel_alloc | apply Below.drew)))).mono ?_; rintro r w15 ⟨rfl, hs⟩
        obtain ⟨lab15, eb15, E15, hT15, I15⟩ := Ik.out.step hs
        obtain ⟨-, rfl⟩ := hT15.resolve_left (fun h => by cases h.1)
        have I15 := Lib.hid I15
        clear hs d1 FT
        have d1 := I15.out.h.at_ (by simp)
        rw [I15.out.x] at d1
        have hr := Below.refl w15.heap.size w15
        go_wp2_with fail
        go_ret
        exact ⟨lab15, eb15, E15, rfl, ⟨E12, HT12.out, Tk.out _ (.inr ⟨HQ2.out, rfl⟩)⟩, I15.out.le, I15.out.h, I15.out.x, I15.out.f⟩
      · rw [hq] at FT
        have HQ2 := Lib.hid hq
        clear hq
        go_wp2_with fail
        refine (FT.out _ (by (repeat' (first | exact Below.refl _ _ | assumption | exact And.left (by assumption) | apply bel_alloc | apply Below.drew)))).mono ?_; rintro r w15 ⟨rfl, hs⟩
        obtain ⟨lab15, eb15, E15, hT15, I15⟩ := Ik.out.step hs
        obtain ⟨-, hT, hJ15⟩ := hT15.resolve_right (fun h => by cases h.1)
        have I15 := Lib.hid I15
        have HT15 := Lib.hid hT
        have J15 := Lib.hid hJ15
        clear hs d1 FT hT hJ15 hT15
        go_wp2_with fail
        go_roundw
        case rel => exact ⟨k + 1, lab15, eb15, E15, by go_num, by omega, I15, Lib.hid (by have := HM.out; rw [show c.v - (k + 1) = m by omega]; exact J15.out), Lib.hid fun E'' h => Tk.out _ (.inl ⟨HQ2.out, E15, HT15.out, by have := HM.out; rw [show c.v - (k + 1) = m by omega] at h; exact h⟩)⟩
        case measure => simp [intOf]; omega
    · have e1 : ¬ (k : Int) < (c.v : Int) := by omega
      have hkv : c.v - k = 0 := by omega
      have HKV := Lib.hid hkv
      clear hkv
      go_wp2_with fail
      go_ret
      refine ⟨labk, ebk, rfl, Ek, ⟨E12, HT12.out, Tk.out _ (by rw [HKV.out]; rfl)⟩, Ik.out.le, Ik.out.h, Ik.out.x, Ik.out.f⟩
end Go.Proofs.YtbhgmccaecmpjaaGreat
