/-
  proj.of, proj.Of: the life of one who is opened as the second event.
  Conditions: the events are of the one, and neither of a drain nor of an end.
-/
import Derived.Test.YtbhgmccaecmpjaaGreatW48
import Derived.Test.YtbhgmccaecmpjaaGreatW40
namespace Go.Proofs.YtbhgmccaecmpjaaGreat
set_option linter.unusedVariables false
set_option linter.unusedSimpArgs false
open Go.RowKit

theorem results_cell_tmp2 {fn : Func} {p u u2 : Tmp} {ty : TypeId} (h : fn.results = #[.cell p ty, .tmp u, .tmp u2]) (tmps : Array Value) (P : Program) (w : World) :
    (results fn tmps).run P w =
      ((asAddr (tmps.getD p undef)).run P w).andThen fun a w₁ => ((loadVar ty a).run P w₁).andThen fun v w₂ => .ok (.tuple #[v, tmps.getD u undef, tmps.getD u2 undef]) w₂ := by
  simp only [results, h]
  simp [Sem.run_bind, Result.andThen]
theorem blk_set9 {g : Nat} {t : TypeId} {w : World} {y0 y1 y2 y3 y4 y5 y6 y7 y8 : Value} (h : Blk w g t #[y0, y1, y2, y3, y4, y5, y6, y7, y8]) (x0 x1 x2 x3 x4 x5 x6 x7 x8 : Value) : Blk (((((((((w.setCell ⟨g, 0, none⟩ x0).setCell ⟨g, 1, none⟩ x1).setCell ⟨g, 2, none⟩ x2).setCell ⟨g, 3, none⟩ x3).setCell ⟨g, 4, none⟩ x4).setCell ⟨g, 5, none⟩ x5).setCell ⟨g, 6, none⟩ x6).setCell ⟨g, 7, none⟩ x7).setCell ⟨g, 8, none⟩ x8) g t #[x0, x1, x2, x3, x4, x5, x6, x7, x8] := by
  have := ((((((((h.set_ 0 x0).set_ 1 x1).set_ 2 x2).set_ 3 x3).set_ 4 x4).set_ 5 x5).set_ 6 x6).set_ 7 x7).set_ 8 x8
  simpa using this
theorem foot_set9 {F : Nat → Prop} {a w : World} {g : Nat} (h : Foot F a w) (hg : F g) (u0 u1 u2 u3 u4 u5 u6 u7 u8 : Value) : Foot F a (((((((((w.setCell ⟨g, 0, none⟩ u0).setCell ⟨g, 1, none⟩ u1).setCell ⟨g, 2, none⟩ u2).setCell ⟨g, 3, none⟩ u3).setCell ⟨g, 4, none⟩ u4).setCell ⟨g, 5, none⟩ u5).setCell ⟨g, 6, none⟩ u6).setCell ⟨g, 7, none⟩ u7).setCell ⟨g, 8, none⟩ u8) :=
  foot_set F (foot_set F (foot_set F (foot_set F (foot_set F (foot_set F (foot_set F (foot_set F (foot_set F h g 0 hg u0) g 1 hg u1) g 2 hg u2) g 3 hg u3) g 4 hg u4) g 5 hg u5) g 6 hg u6) g 7 hg u7) g 8 hg u8
/-- Events in a block. -/
structure EvsAt (w : World) (g : Nat) (l : List EvT) : Prop where
  lt : g < w.heap.size
  cell : ∀ (i : Nat) v, l[i]? = some v → w.cell? ⟨g, i * 12, none⟩ = some (.int .i64 v.k) ∧ w.cell? ⟨g, i * 12 + 1, none⟩ = some (.int .i64 v.i) ∧ w.cell? ⟨g, i * 12 + 2, none⟩ = some (.int .i64 v.n) ∧ w.cell? ⟨g, i * 12 + 3, none⟩ = some (.int .i64 v.t) ∧ w.cell? ⟨g, i * 12 + 4, none⟩ = some (.string v.b) ∧ w.cell? ⟨g, i * 12 + 5, none⟩ = some (.int .i64 v.e) ∧ w.cell? ⟨g, i * 12 + 6, none⟩ = some (.int .i64 v.s0) ∧ w.cell? ⟨g, i * 12 + 7, none⟩ = some (.int .i64 v.s1) ∧ w.cell? ⟨g, i * 12 + 8, none⟩ = some (.int .i64 v.s2) ∧ w.cell? ⟨g, i * 12 + 9, none⟩ = some (.int .i64 v.s3) ∧ w.cell? ⟨g, i * 12 + 10, none⟩ = some (.int .i64 v.s4) ∧ w.cell? ⟨g, i * 12 + 11, none⟩ = some (.int .i64 v.s5)
theorem EvsAt.same {w w' : World} {g : Nat} {l : List EvT} (h : EvsAt w g l) (hs : w.heap.size ≤ w'.heap.size) (hb : w'.heap[g]? = w.heap[g]?) : EvsAt w' g l := by
  refine ⟨Nat.lt_of_lt_of_le h.lt hs, fun i v hv => ?_⟩
  have := h.cell i v hv
  simp only [cell_same hb]
  exact this
theorem EvsAt.later {w w' : World} {g : Nat} {l : List EvT} (h : EvsAt w g l) (b : Below w.heap.size w w') : EvsAt w' g l := h.same b.size (b.block _ h.lt)
theorem EvsAt.of {w : World} {g cap n B : Nat} {l : List EvT} (h : ORow 69 12 B w (.slice (some ⟨g, 0, none⟩) n cap) l.length (evAll l)) (h1 : 1 ≤ l.length) : EvsAt w g l := by
  have at_ : ∀ j, j < l.length * 12 → w.cell? ⟨g, j, none⟩ = (evAll l)[j]? ∧ g < w.heap.size := fun j hj => by
    obtain ⟨g2, hg, hl, hc⟩ := orow_cell h j (by rw [evAll_length]; exact hj)
    cases hg
    exact ⟨hc w (Below.refl _ _), hl⟩
  have key : ∀ (l : List EvT) (i : Nat) v, l[i]? = some v → ∀ j, j < 12 → (evAll l)[i * 12 + j]? = v.cells[j]? := by
    intro l
    induction l with
    | nil => intro i v hv; simp at hv
    | cons x l ih =>
      intro i v hv j hj
      show (x.cells ++ evAll l)[i * 12 + j]? = _
      have hx : x.cells.length = 12 := rfl
      cases i with
      | zero =>
        simp at hv
        subst hv
        rw [Nat.zero_mul, Nat.zero_add, List.getElem?_append_left (by omega)]
      | succ i =>
        rw [List.getElem?_append_right (by omega), hx, show (i + 1) * 12 + j - 12 = i * 12 + j by omega]
        exact ih i v (by simpa using hv) j hj
  refine ⟨(at_ 0 (by omega)).2, fun i v hv => ?_⟩
  have hi : i < l.length := (List.getElem?_eq_some_iff.1 hv).1
  have c : ∀ j, j < 12 → w.cell? ⟨g, i * 12 + j, none⟩ = v.cells[j]? := fun j hj => ((at_ (i * 12 + j) (by omega)).1).trans (key l i v hv j hj)
  exact ⟨c 0 (by omega), c 1 (by omega), c 2 (by omega), c 3 (by omega), c 4 (by omega), c 5 (by omega), c 6 (by omega), c 7 (by omega), c 8 (by omega), c 9 (by omega), c 10 (by omega), c 11 (by omega)⟩
set_option maxRecDepth 100000 in
set_option maxHeartbeats 8000000 in
theorem pjMatchN {w : World} (qi : Nat) (k i vn vt : Int) (b : ByteArray) (er s0 s1 s2 s3 s4 s5 : Int) (hk : (k == 2) = false) : Calls Tryz.prog 18 #[.agg #[.int .i64 k, .int .i64 i, .int .i64 vn, .int .i64 vt, .string b, .int .i64 er, .int .i64 s0, .int .i64 s1, .int .i64 s2, .int .i64 s3, .int .i64 s4, .int .i64 s5], .pointer (some ⟨qi, 0, none⟩)] w fun e w' => e = .returned (.bool false) ∧ Below w.heap.size w w' := by
  go_enter Tryz.func18, Tryz.ntmps18
  go_wp2_with fail
  exact bodyPost_ret (v := .bool false) (by simp [results, Tryz.results18, go_sem]) rfl ⟨rfl, by (repeat' (first | exact Below.refl _ _ | assumption | apply Below.drew | apply below_drewN | refine Below.setCell ?_ (by first | assumption | (simp; done) | (simp <;> omega)) _ | refine Below.alloc ?_ (by first | exact Nat.le_refl _ | assumption | (simp; done) | (simp <;> omega)) _))⟩
set_option maxRecDepth 100000 in
set_option maxHeartbeats 8000000 in
theorem pjMatchY {w : World} (qi : Nat) (vn vt : Int) (b : ByteArray) (er s0 s1 s2 s3 s4 s5 : Int) (hq : ∀ w', Below w.heap.size w w' → w'.cell? ⟨qi, 0, none⟩ = some (.int .i64 0)) : Calls Tryz.prog 18 #[.agg #[.int .i64 2, .int .i64 0, .int .i64 vn, .int .i64 vt, .string b, .int .i64 er, .int .i64 s0, .int .i64 s1, .int .i64 s2, .int .i64 s3, .int .i64 s4, .int .i64 s5], .pointer (some ⟨qi, 0, none⟩)] w fun e w' => e = .returned (.bool true) ∧ Below w.heap.size w w' := by
  obtain ⟨q, hq0⟩ : ∃ q, w.heap.size = q := ⟨_, rfl⟩
  obtain ⟨w1, hw1⟩ : ∃ w1, w1 = w.alloc (.cells #[.int .i64 2, .int .i64 0, .int .i64 vn, .int .i64 vt, .string b, .int .i64 er, .int .i64 s0, .int .i64 s1, .int .i64 s2, .int .i64 s3, .int .i64 s4, .int .i64 s5] 69) := ⟨_, rfl⟩
  have b1 : Below w.heap.size w w1 := by rw [hw1]; exact Below.alloc (Below.refl _ _) (Nat.le_refl _) _
  have K1 : Blk w1 q 69 #[.int .i64 2, .int .i64 0, .int .i64 vn, .int .i64 vt, .string b, .int .i64 er, .int .i64 s0, .int .i64 s1, .int .i64 s2, .int .i64 s3, .int .i64 s4, .int .i64 s5] := by rw [hw1, ← hq0]; exact Blk.new _ _ _
  have h1 : ∀ w', Below w1.heap.size w1 w' → w'.cell? ⟨qi, 0, none⟩ = some (.int .i64 0) := fun w' hb => hq w' (b1.up hb)
  have HW1 := Lib.hid hw1
  have HQ := Lib.hid hq0
  clear hw1 hq0 hq
  go_enter Tryz.func18, Tryz.ntmps18
  go_upto_region 1 with fail
  rw [← HW1.out, HQ.out]
  have d1 := K1.at12
  have hr := Below.refl w1.heap.size w1
  go_wp2_with fail
  exact bodyPost_ret (v := .bool true) (by simp [results, Tryz.results18, go_sem]) rfl ⟨rfl, b1⟩
set_option maxRecDepth 100000 in
set_option maxHeartbeats 8000000 in
theorem pjIndex {w : World} (g n cap qi : Nat) (a b : EvT) (rest : List EvT) (h : EvsAt w g (a :: b :: rest)) (hn : n = (a :: b :: rest).length) (hq : ∀ w', Below w.heap.size w w' → w'.cell? ⟨qi, 0, none⟩ = some (.int .i64 0)) (ha : a.k ≠ 2) (hb : b.k = 2) (hi : b.i = 0) :
    Calls Tryz.prog 17 #[.slice (some ⟨g, 0, none⟩) n cap, .func (.func 18) #[] #[.pointer (some ⟨qi, 0, none⟩)]] w fun e w' => e = .returned (.int .i64 1) ∧ Below w.heap.size w w' := by
  have d : ∀ w', Below w.heap.size w w' → w'.cell? ⟨g, 0, none⟩ = some (.int .i64 a.k) ∧ w'.cell? ⟨g, 1, none⟩ = some (.int .i64 a.i) ∧ w'.cell? ⟨g, 2, none⟩ = some (.int .i64 a.n) ∧ w'.cell? ⟨g, 3, none⟩ = some (.int .i64 a.t) ∧ w'.cell? ⟨g, 4, none⟩ = some (.string a.b) ∧ w'.cell? ⟨g, 5, none⟩ = some (.int .i64 a.e) ∧ w'.cell? ⟨g, 6, none⟩ = some (.int .i64 a.s0) ∧ w'.cell? ⟨g, 7, none⟩ = some (.int .i64 a.s1) ∧ w'.cell? ⟨g, 8, none⟩ = some (.int .i64 a.s2) ∧ w'.cell? ⟨g, 9, none⟩ = some (.int .i64 a.s3) ∧ w'.cell? ⟨g, 10, none⟩ = some (.int .i64 a.s4) ∧ w'.cell? ⟨g, 11, none⟩ = some (.int .i64 a.s5) := fun w' hw => (h.later hw).cell 0 a rfl
  have d2 : ∀ w', Below w.heap.size w w' → w'.cell? ⟨g, 12, none⟩ = some (.int .i64 b.k) ∧ w'.cell? ⟨g, 13, none⟩ = some (.int .i64 b.i) ∧ w'.cell? ⟨g, 14, none⟩ = some (.int .i64 b.n) ∧ w'.cell? ⟨g, 15, none⟩ = some (.int .i64 b.t) ∧ w'.cell? ⟨g, 16, none⟩ = some (.string b.b) ∧ w'.cell? ⟨g, 17, none⟩ = some (.int .i64 b.e) ∧ w'.cell? ⟨g, 18, none⟩ = some (.int .i64 b.s0) ∧ w'.cell? ⟨g, 19, none⟩ = some (.int .i64 b.s1) ∧ w'.cell? ⟨g, 20, none⟩ = some (.int .i64 b.s2) ∧ w'.cell? ⟨g, 21, none⟩ = some (.int .i64 b.s3) ∧ w'.cell? ⟨g, 22, none⟩ = some (.int .i64 b.s4) ∧ w'.cell? ⟨g, 23, none⟩ = some (.int .i64 b.s5) := fun w' hw => (h.later hw).cell 1 b rfl
  rw [hb, hi] at d2
  have hr := Below.refl w.heap.size w
  have h2 : (1 : Int) < (n : Int) := by rw [hn]; simp; omega
  have h0 : (0 : Int) < (n : Int) := by omega
  have hk : (a.k == 2) = false := ne_b ha
  obtain ⟨ak, ai, an, at_, ab, ae, a0, a1, a2, a3, a4, a5⟩ := a
  obtain ⟨bk, bi, bn, bt, bb, be, b0, b1_, b2, b3, b4, b5⟩ := b
  simp only at d d2 hk
  clear h hn ha hb hi
  go_enter Tryz.func17, Tryz.ntmps17
  go_wp2_with fail
  refine wp_loop_rounds 3 ?_
  rw [rounds_succ]
  go_wp2_with fail
  refine (pjMatchN qi ak ai an at_ ab ae a0 a1 a2 a3 a4 a5 hk).mono ?_; rintro e w1 ⟨rfl, b1⟩
  have b1' : Below w.heap.size w w1 := by first | exact b1 | exact (Below.refl _ _).drew.up b1
  have d3 := fun w' hb => d2 w' (b1'.up hb)
  have hq1 : ∀ w', Below w1.heap.size w1 w' → w'.cell? ⟨qi, 0, none⟩ = some (.int .i64 0) := fun w' hb => hq w' (b1'.up hb)
  have FY : Hid (∀ w', Below w1.heap.size w1 w' → Calls Tryz.prog 18 #[.agg #[.int .i64 2, .int .i64 0, .int .i64 bn, .int .i64 bt, .string bb, .int .i64 be, .int .i64 b0, .int .i64 b1_, .int .i64 b2, .int .i64 b3, .int .i64 b4, .int .i64 b5], .pointer (some ⟨qi, 0, none⟩)] w' fun e w'' => e = .returned (.bool true) ∧ Below w'.heap.size w' w'') := Lib.hid fun w' hb => pjMatchY qi bn bt bb be b0 b1_ b2 b3 b4 b5 (fun w'' hb2 => hq1 w'' (hb.up hb2))
  have B1 := Lib.hid b1'
  clear d d2 hr hq hq1 b1 b1' hk
  have hr := Below.refl w1.heap.size w1
  go_wp2_with fail
  rw [rounds_succ]
  go_wp2_with fail
  refine (FY.out _ (by (repeat' (first | exact Below.refl _ _ | assumption | exact And.left (by assumption) | apply bel_alloc | apply Below.drew)))).mono ?_; rintro e w2 ⟨rfl, b2'⟩
  have B2 : Below w1.heap.size w1 w2 := by first | exact b2' | exact (Below.refl _ _).drew.up b2'
  clear d3 hr FY
  go_wp2_with fail
  go_ret
  exact ⟨rfl, B1.out.up B2⟩
/-- What one event adds, as far as the law asks. -/
theorem adAny {B : Nat} {w : World} {x t : Nat} {iv sv wv : Value} {sc fr st : Int} {rd tk : ByteArray} {ef : Bool} {n : Nat} (h : LifeI B w x t iv sv wv sc fr st rd tk ef n) (hB : B ≤ w.heap.size) (v : EvT) (hi : v.i = 0) (hk : v.k ≠ 5 ∧ v.k ≠ 7) (hv : v.b.size ≤ 1000) (hn : n ≤ 300000) :
    Calls Tryz.prog 19 #[.pointer (some ⟨x, 0, none⟩), .agg v.cells.toArray, .pointer (some ⟨t, 0, none⟩)] w fun e w' => e = .returned (.tuple #[]) ∧ ∃ iv' sv' wv' tk', LifeI B w' x t iv' sv' wv' sc fr (if v.k = 8 then v.s5 else st) (rd ++ ⟨(if v.k = 4 then v.b.data.toList else []).toArray⟩) tk' ef (n + 3) ∧ Foot (fun i => B ≤ i) w w' := by
  have e0 : rd ++ ⟨([] : List UInt8).toArray⟩ = rd := by
    show rd ++ ByteArray.empty = rd
    exact ByteArray.append_empty
  by_cases h4 : v.k = 4
  · have e4 : (⟨(if v.k = 4 then v.b.data.toList else []).toArray⟩ : ByteArray) = v.b := by rw [if_pos h4]
    rw [e4, if_neg (by omega)]
    exact (adRead h hB v hi h4 hv hn).mono fun e w' ⟨h1, iv', sv', wv', h2, h3⟩ => ⟨h1, iv', sv', wv', tk, h2, h3⟩
  · rw [if_neg h4, e0]
    by_cases h6 : v.k = 6
    · rw [if_neg (by omega)]
      exact (adWrite h hB v hi h6 hv hn).mono fun e w' ⟨h1, iv', sv', wv', tk', h2, h3⟩ => ⟨h1, iv', sv', wv', tk', h2, h3⟩
    · by_cases h8 : v.k = 8
      · rw [if_pos h8]
        exact (adStep h hB v hi h8 hv hn).mono fun e w' ⟨h1, iv', sv', wv', h2, h3⟩ => ⟨h1, iv', sv', wv', tk, h2, h3⟩
      · rw [if_neg h8]
        exact (adNone h hB v hi ⟨h4, hk.1, h6, hk.2, h8⟩ hv hn).mono fun e w' ⟨h1, h2⟩ => ⟨h1, iv, sv, wv, tk, (h.later h2).more (by omega), Foot.later h2⟩
set_option maxRecDepth 100000 in
set_option maxHeartbeats 8000000 in
theorem pjOf {w : World} (g n cap : Nat) (a b : EvT) (rest : List EvT) (h : EvsAt w g (a :: b :: rest)) (hn : n = (a :: b :: rest).length) (hcap : n ≤ cap) (ha : a.k = 1) (hb : b.k = 2) (hi : b.i = 0) (hl : 1 ≤ rest.length ∧ rest.length ≤ 90000) (hr : ∀ v ∈ rest, v.i = 0 ∧ v.k ≠ 5 ∧ v.k ≠ 7 ∧ v.b.size ≤ 1000) :
    Calls Tryz.prog 14 #[.slice (some ⟨g, 0, none⟩) n cap, .int .i64 0] w fun e w' => ∃ sc fr x1 n1 c1 x2 n2 c2 wv tk ef, e = .returned (.tuple #[.agg #[.int .i64 0, .int .i64 sc, .int .i64 fr, .slice x1 n1 c1, .slice x2 n2 c2, .string ⟨(rdOf rest).toArray⟩, .string tk, .bool ef, .int .i64 (stF 0 rest)], wv, .bool true]) ∧ Below w.heap.size w w' := by
  obtain ⟨q0, hq0⟩ : ∃ q, w.heap.size = q := ⟨_, rfl⟩
  obtain ⟨w1, hw1⟩ : ∃ w1, w1 = w.alloc (.cells #[.int .i64 0] 3) := ⟨_, rfl⟩
  have K1 : Blk w1 q0 3 #[.int .i64 0] := by rw [hw1, ← hq0]; exact Blk.new _ _ _
  have b1 : Below w.heap.size w w1 := by rw [hw1]; exact Below.alloc (Below.refl _ _) (Nat.le_refl _) _
  have s1 : w1.heap.size = q0 + 1 := by rw [hw1, ← hq0]; simp
  obtain ⟨w2, hw2⟩ : ∃ w2, w2 = w1.alloc (.cells #[.int .i64 0, .int .i64 0, .int .i64 0, .slice none 0 0, .slice none 0 0, .string ⟨#[]⟩, .string ⟨#[]⟩, .bool false, .int .i64 0] 51) := ⟨_, rfl⟩
  have K2 : Blk w2 (q0 + 1) 51 #[.int .i64 0, .int .i64 0, .int .i64 0, .slice none 0 0, .slice none 0 0, .string ⟨#[]⟩, .string ⟨#[]⟩, .bool false, .int .i64 0] := by rw [hw2, ← s1]; exact Blk.new _ _ _
  have b2 : Below w1.heap.size w1 w2 := by rw [hw2]; exact Below.alloc (Below.refl _ _) (Nat.le_refl _) _
  have s2 : w2.heap.size = q0 + 2 := by rw [hw2]; simp [s1]
  obtain ⟨w3, hw3⟩ : ∃ w3, w3 = w2.alloc (.cells #[.int .i64 0, .int .i64 0, .int .i64 0, .slice none 0 0, .slice none 0 0, .string ⟨#[]⟩, .string ⟨#[]⟩, .bool false, .int .i64 0] 51) := ⟨_, rfl⟩
  have K3 : Blk w3 (q0 + 2) 51 #[.int .i64 0, .int .i64 0, .int .i64 0, .slice none 0 0, .slice none 0 0, .string ⟨#[]⟩, .string ⟨#[]⟩, .bool false, .int .i64 0] := by rw [hw3, ← s2]; exact Blk.new _ _ _
  have b3 : Below w2.heap.size w2 w3 := by rw [hw3]; exact Below.alloc (Below.refl _ _) (Nat.le_refl _) _
  have s3 : w3.heap.size = q0 + 3 := by rw [hw3]; simp [s2]
  obtain ⟨w4, hw4⟩ : ∃ w4, w4 = w3.alloc (.cells #[.slice none 0 0] 61) := ⟨_, rfl⟩
  have K4 : Blk w4 (q0 + 3) 61 #[.slice none 0 0] := by rw [hw4, ← s3]; exact Blk.new _ _ _
  have b4 : Below w3.heap.size w3 w4 := by rw [hw4]; exact Below.alloc (Below.refl _ _) (Nat.le_refl _) _
  have hw4' : w4 = (((w.alloc (.cells #[.int .i64 0] 3)).alloc (.cells #[.int .i64 0, .int .i64 0, .int .i64 0, .slice none 0 0, .slice none 0 0, .string ⟨#[]⟩, .string ⟨#[]⟩, .bool false, .int .i64 0] 51)).alloc (.cells #[.int .i64 0, .int .i64 0, .int .i64 0, .slice none 0 0, .slice none 0 0, .string ⟨#[]⟩, .string ⟨#[]⟩, .bool false, .int .i64 0] 51)).alloc (.cells #[.slice none 0 0] 61) := by rw [hw4, hw3, hw2, hw1]
  have HW4 := Lib.hid hw4'
  have HQ := Lib.hid hq0
  have bb := ((b1.up b2).up b3).up b4
  obtain ⟨q1, hq1⟩ : ∃ q1, q0 + 1 = q1 := ⟨_, rfl⟩
  obtain ⟨q2, hq2⟩ : ∃ q2, q1 + 1 = q2 := ⟨_, rfl⟩
  obtain ⟨q3, hq3⟩ : ∃ q3, q2 + 1 = q3 := ⟨_, rfl⟩
  have I4 : Hid (LifeI q2 w4 q2 q3 (.slice none 0 0) (.slice none 0 0) (.slice none 0 0) 0 0 0 ⟨#[]⟩ ⟨#[]⟩ false 0) := Lib.hid ⟨by rw [← hq2, ← hq1]; exact K3.later b4, by rw [← hq3, ← hq2, ← hq1]; exact K4, ⟨0, [], Nat.le_refl _, orow_nil _ _ _ _⟩, ⟨0, [], Nat.le_refl _, orow_nil _ _ _ _⟩, ⟨0, [], Nat.le_refl _, orow_nil _ _ _ _⟩, ⟨by omega, by omega⟩, Nat.zero_le _, Nat.zero_le _⟩
  have R4 : Hid (Blk w4 q1 51 #[.int .i64 0, .int .i64 0, .int .i64 0, .slice none 0 0, .slice none 0 0, .string ⟨#[]⟩, .string ⟨#[]⟩, .bool false, .int .i64 0] ∧ w.heap.size ≤ q1 ∧ q1 < q2 ∧ q2 < q3) := Lib.hid ⟨by rw [← hq1]; exact (K2.later b3).later b4, by omega, by omega, by omega⟩
  have D4 : ∀ w', Below w4.heap.size w4 w' → w'.cell? ⟨q0, 0, none⟩ = some (.int .i64 0) := fun w' hb => (((K1.later b2).later b3).later b4).later hb |>.cell 0
  have E4 := h.later bb
  have FI := Lib.hid (pjIndex (w := w4) g n cap q0 a b rest E4 hn D4 (by omega) hb hi)
  have HE4 := Lib.hid E4
  have B4 := Lib.hid bb
  have HL := Lib.hid (And.intro hl hr)
  have HGL := Lib.hid h.lt
  have HQS := Lib.hid (And.intro hq1 (And.intro hq2 hq3))
  have hn1 : (1 : Int) < (n : Int) := by rw [hn]; simp; omega
  have hc1 : (1 : Int) ≤ (cap : Int) := by omega
  have hc2 : (n : Int) ≤ (cap : Int) := by omega
  have HNN := Lib.hid hn
  obtain ⟨ak, ai, an, at_, ab, ae, a0, a1, a2, a3, a4, a5⟩ := a
  simp only at ha
  subst ha
  have HBB := Lib.hid (And.intro hb hi)
  clear hw4 hw4' hw3 hw2 hw1 K1 K2 K3 K4 b1 b2 b3 b4 s1 s2 s3 hq0 hq1 hq2 hq3 bb h hn hb hi hl hr E4 D4 hcap
  go_enter Tryz.func14, Tryz.ntmps14
  go_upto_region 3 with fail
  rw [← HW4.out, HQ.out, HQS.out.1, HQS.out.2.1, HQS.out.2.2]
  have hr := Below.refl w4.heap.size w4
  go_wp2_with fail
  refine FI.out.mono ?_; rintro e w5 ⟨rfl, b5⟩
  have b5' : Below w4.heap.size w4 w5 := by first | exact b5 | exact (Below.refl _ _).drew.up b5
  have E5 := HE4.out.later b5'
  have I5 := Lib.hid (I4.out.later b5')
  have R5 : Hid (Blk w5 q1 51 #[.int .i64 0, .int .i64 0, .int .i64 0, .slice none 0 0, .slice none 0 0, .string ⟨#[]⟩, .string ⟨#[]⟩, .bool false, .int .i64 0]) := Lib.hid (R4.out.1.later b5')
  have HE5 := Lib.hid E5
  have B5 := Lib.hid (B4.out.up b5')
  clear hr b5 b5' I4 HE4 B4 FI HW4
  have d : ∀ w', Below w5.heap.size w5 w' → w'.cell? ⟨g, 0, none⟩ = some (.int .i64 1) ∧ w'.cell? ⟨g, 1, none⟩ = some (.int .i64 ai) ∧ w'.cell? ⟨g, 2, none⟩ = some (.int .i64 an) ∧ w'.cell? ⟨g, 3, none⟩ = some (.int .i64 at_) ∧ w'.cell? ⟨g, 4, none⟩ = some (.string ab) ∧ w'.cell? ⟨g, 5, none⟩ = some (.int .i64 ae) ∧ w'.cell? ⟨g, 6, none⟩ = some (.int .i64 a0) ∧ w'.cell? ⟨g, 7, none⟩ = some (.int .i64 a1) ∧ w'.cell? ⟨g, 8, none⟩ = some (.int .i64 a2) ∧ w'.cell? ⟨g, 9, none⟩ = some (.int .i64 a3) ∧ w'.cell? ⟨g, 10, none⟩ = some (.int .i64 a4) ∧ w'.cell? ⟨g, 11, none⟩ = some (.int .i64 a5) := fun w' hw => (E5.later hw).cell 0 _ rfl
  have hr := Below.refl w5.heap.size w5
  obtain ⟨q9, hq9⟩ : ∃ q, w5.heap.size = q := ⟨_, rfl⟩
  obtain ⟨w6, hw6⟩ : ∃ w6, w6 = w5.alloc (.cells #[.int .i64 1, .int .i64 ai, .int .i64 an, .int .i64 at_, .string ab, .int .i64 ae, .int .i64 a0, .int .i64 a1, .int .i64 a2, .int .i64 a3, .int .i64 a4, .int .i64 a5] 69) := ⟨_, rfl⟩
  have K6 : Blk w6 q9 69 #[.int .i64 1, .int .i64 ai, .int .i64 an, .int .i64 at_, .string ab, .int .i64 ae, .int .i64 a0, .int .i64 a1, .int .i64 a2, .int .i64 a3, .int .i64 a4, .int .i64 a5] := by rw [hw6, ← hq9]; exact Blk.new _ _ _
  have b6 : Below w5.heap.size w5 w6 := by rw [hw6]; exact Below.alloc (Below.refl _ _) (Nat.le_refl _) _
  have HW6 := Lib.hid hw6
  have HQ9 := Lib.hid hq9
  have I6 := Lib.hid (I5.out.later b6)
  have R6 := Lib.hid (R5.out.later b6)
  have E6 := Lib.hid (HE5.out.later b6)
  have B6 := Lib.hid (B5.out.up b6)
  clear hw6 hq9 E5
  go_wp2_with fail
  refine wp_loop_rounds 2 ?_
  rw [rounds_succ]
  go_upto_region 9 with fail
  rw [← HW6.out, HQ9.out]
  clear d hr b6 I5 R5 HE5 B5
  have d := K6.at12
  have dx := I6.out.blk.at9
  have hr := Below.refl w6.heap.size w6
  go_wp2_with fail
  rw [rounds_succ]
  go_upto_region 12 with fail
  obtain ⟨w7, hw7⟩ : ∃ w7, w7 = w6.setCell ⟨q2, 2, none⟩ (.int .i64 at_) := ⟨_, rfl⟩
  have f7 : Foot (fun i => i = q2) w6 w7 := by rw [hw7]; exact foot_set (fun i => i = q2) (Foot.refl _ w6) q2 2 rfl _
  have I7 := Lib.hid (I6.out.own (sc' := 0) (fr' := at_) (st' := 0) (rd' := ⟨#[]⟩) (tk' := ⟨#[]⟩) (ef' := false) f7 (by rw [hw7]; exact I6.out.blk.set_ 2 (.int .i64 at_)) (Nat.le_refl 0) (Nat.zero_le _) (Nat.zero_le _))
  have hgq : g < w.heap.size := HGL.out
  have hqq : w.heap.size ≤ q2 := by have := R4.out.2; omega
  have E7 := Lib.hid (E6.out.same f7.size (f7.block g E6.out.lt (by show ¬ g = q2; omega)))
  have R7 : Hid (Blk w7 q1 51 #[.int .i64 0, .int .i64 0, .int .i64 0, .slice none 0 0, .slice none 0 0, .string ⟨#[]⟩, .string ⟨#[]⟩, .bool false, .int .i64 0]) := Lib.hid (R6.out.foot f7 (by show ¬ q1 = q2; have := R4.out.2; omega))
  have B7 : Hid (Below w.heap.size w w7) := Lib.hid (by rw [hw7]; exact Below.setCell B6.out (p := ⟨q2, 2, none⟩) hqq _)
  rw [← hw7]
  clear hw7 f7 d dx hr K6 I6 E6 R6 B6
  have dg : ∀ w', Below w7.heap.size w7 w' → w'.cell? ⟨g, 14, none⟩ = some (.int .i64 b.n) := fun w' hb => ((E7.out.later hb).cell 1 b rfl).2.2.1
  have dx := I7.out.blk.at9
  have hr := Below.refl w7.heap.size w7
  obtain ⟨bn, hbn⟩ : ∃ bn, bn = b.n := ⟨_, rfl⟩
  rw [← hbn] at dg
  clear hbn
  go_upto_region 13 with fail
  obtain ⟨w8, hw8⟩ : ∃ w8, w8 = w7.setCell ⟨q2, 1, none⟩ (.int .i64 bn) := ⟨_, rfl⟩
  have f8 : Foot (fun i => i = q2) w7 w8 := by rw [hw8]; exact foot_set (fun i => i = q2) (Foot.refl _ w7) q2 1 rfl _
  have I8 := Lib.hid (I7.out.own (sc' := bn) (fr' := at_) (st' := 0) (rd' := ⟨#[]⟩) (tk' := ⟨#[]⟩) (ef' := false) f8 (by rw [hw8]; exact I7.out.blk.set_ 1 (.int .i64 bn)) (Nat.le_refl 0) (Nat.zero_le _) (Nat.zero_le _))
  have E8 := Lib.hid (E7.out.same f8.size (f8.block g E7.out.lt (by show ¬ g = q2; omega)))
  have R8 : Hid (Blk w8 q1 51 #[.int .i64 0, .int .i64 0, .int .i64 0, .slice none 0 0, .slice none 0 0, .string ⟨#[]⟩, .string ⟨#[]⟩, .bool false, .int .i64 0]) := Lib.hid (R7.out.foot f8 (by show ¬ q1 = q2; have := R4.out.2; omega))
  have B8 : Hid (Below w.heap.size w w8) := Lib.hid (by rw [hw8]; exact Below.setCell B7.out (p := ⟨q2, 1, none⟩) hqq _)
  rw [← hw8]
  clear hw8 f8 dg dx hr I7 E7 R7 B7
  have hr := Below.refl w8.heap.size w8
  have hc3 : (2 : Int) ≤ (n : Int) := by omega
  have hc5 : 2 < cap := by have h1 := HNN.out; have h2 := HL.out.1; simp at h1; omega
  have hc6 : ¬ cap = 2 := by omega
  have hc4 : (n : Int) - 2 = (rest.length : Nat) := by rw [HNN.out]; simp; omega
  obtain ⟨m, hm⟩ : ∃ m, m = rest.length := ⟨_, rfl⟩
  have HMM := Lib.hid hm
  rw [← hm] at hc4
  clear hm
  go_wp2_with fail
  have hnm : n - 2 = m := by omega
  rw [hnm]
  have J0 : Hid (∃ iv sv wv tk ef, LifeI q2 w8 q2 q3 iv sv wv bn at_ (stF 0 (rest.take 0)) ⟨(rdOf (rest.take 0)).toArray⟩ tk ef (3 * 0)) := Lib.hid ⟨_, _, _, _, _, I8.out⟩
  clear hnm I8 hr hc3 hc4 hc5 hc6 hn1 hc1 hc2
  obtain ⟨LL, hLL⟩ : ∃ LL : List EvT, LL = ⟨1, ai, an, at_, ab, ae, a0, a1, a2, a3, a4, a5⟩ :: b :: rest := ⟨_, rfl⟩
  rw [← hLL] at E8
  have HLL := Lib.hid hLL
  clear hLL
  have hm90 : m ≤ 90000 := by have := HL.out.1.2; have := HMM.out; omega
  go_loopw [48] (fun iv wr => ∃ k : Nat, iv = .int .i64 k ∧ k ≤ m ∧ Hid (∃ iv sv wv tk ef, LifeI q2 wr q2 q3 iv sv wv bn at_ (stF 0 (rest.take k)) ⟨(rdOf (rest.take k)).toArray⟩ tk ef (3 * k)) ∧ Hid (Blk wr q1 51 #[.int .i64 0, .int .i64 0, .int .i64 0, .slice none 0 0, .slice none 0 0, .string ⟨#[]⟩, .string ⟨#[]⟩, .bool false, .int .i64 0]) ∧ Hid (EvsAt wr g LL) ∧ Hid (Below w.heap.size w wr)) (fun iv _ => m - (intOf iv).toNat)
  case atStart => exact ⟨0, rfl, Nat.zero_le _, J0, R8, E8, B8⟩
  case round =>
    clear J0 R8 E8 B8
    obtain ⟨k, rfl, hk, HJ, HR, HE, HBw⟩ := hrel
    by_cases hlt : k < m
    · have e1 : (k : Int) < (m : Int) := by omega
      obtain ⟨v, hv⟩ : ∃ v, rest[k]? = some v := ⟨rest[k]'(by have := HMM.out; omega), List.getElem?_eq_getElem _⟩
      obtain ⟨vk, vi, vn, vt, vb, ve, s0, s1, s2, s3, s4, s5⟩ := v
      have hvm := HL.out.2 _ (List.mem_of_getElem? hv)
      simp only at hvm
      have d : ∀ w', Below wr.heap.size wr w' → w'.cell? ⟨g, 24 + k * 12, none⟩ = some (.int .i64 vk) ∧ w'.cell? ⟨g, 24 + k * 12 + 1, none⟩ = some (.int .i64 vi) ∧ w'.cell? ⟨g, 24 + k * 12 + 2, none⟩ = some (.int .i64 vn) ∧ w'.cell? ⟨g, 24 + k * 12 + 3, none⟩ = some (.int .i64 vt) ∧ w'.cell? ⟨g, 24 + k * 12 + 4, none⟩ = some (.string vb) ∧ w'.cell? ⟨g, 24 + k * 12 + 5, none⟩ = some (.int .i64 ve) ∧ w'.cell? ⟨g, 24 + k * 12 + 6, none⟩ = some (.int .i64 s0) ∧ w'.cell? ⟨g, 24 + k * 12 + 7, none⟩ = some (.int .i64 s1) ∧ w'.cell? ⟨g, 24 + k * 12 + 8, none⟩ = some (.int .i64 s2) ∧ w'.cell? ⟨g, 24 + k * 12 + 9, none⟩ = some (.int .i64 s3) ∧ w'.cell? ⟨g, 24 + k * 12 + 10, none⟩ = some (.int .i64 s4) ∧ w'.cell? ⟨g, 24 + k * 12 + 11, none⟩ = some (.int .i64 s5) := fun w' hb => by
        have := (HE.out.later hb).cell (k + 2) ⟨vk, vi, vn, vt, vb, ve, s0, s1, s2, s3, s4, s5⟩ (by rw [HLL.out]; exact hv)
        rw [show (k + 2) * 12 = 24 + k * 12 by omega] at this
        exact this
      have HV := Lib.hid hv
      have HVM := Lib.hid hvm
      clear hv hvm
      have hr := Below.refl wr.heap.size wr
      obtain ⟨q13, hq13⟩ : ∃ q, wr.heap.size = q := ⟨_, rfl⟩
      obtain ⟨w9, hw9⟩ : ∃ w9, w9 = wr.alloc (.cells #[.int .i64 vk, .int .i64 vi, .int .i64 vn, .int .i64 vt, .string vb, .int .i64 ve, .int .i64 s0, .int .i64 s1, .int .i64 s2, .int .i64 s3, .int .i64 s4, .int .i64 s5] 69) := ⟨_, rfl⟩
      have K9 : Blk w9 q13 69 #[.int .i64 vk, .int .i64 vi, .int .i64 vn, .int .i64 vt, .string vb, .int .i64 ve, .int .i64 s0, .int .i64 s1, .int .i64 s2, .int .i64 s3, .int .i64 s4, .int .i64 s5] := by rw [hw9, ← hq13]; exact Blk.new _ _ _
      have b9 : Below wr.heap.size wr w9 := by rw [hw9]; exact Below.alloc (Below.refl _ _) (Nat.le_refl _) _
      have HW9 := Lib.hid hw9
      have HQ13 := Lib.hid hq13
      have HB9 := Lib.hid b9
      clear hw9 hq13 b9
      go_upto_region 16 with fail
      rw [← HW9.out, HQ13.out]
      clear d hr
      have d := K9.at12
      have hr := Below.refl w9.heap.size w9
      have FA : Hid (∀ w', Below w9.heap.size w9 w' → Calls Tryz.prog 19 #[.pointer (some ⟨q2, 0, none⟩), .agg #[.int .i64 vk, .int .i64 vi, .int .i64 vn, .int .i64 vt, .string vb, .int .i64 ve, .int .i64 s0, .int .i64 s1, .int .i64 s2, .int .i64 s3, .int .i64 s4, .int .i64 s5], .pointer (some ⟨q3, 0, none⟩)] w' fun e w'' => e = .returned (.tuple #[]) ∧ Hid (∃ iv sv wv tk ef, LifeI q2 w'' q2 q3 iv sv wv bn at_ (stF 0 (rest.take (k + 1))) ⟨(rdOf (rest.take (k + 1))).toArray⟩ tk ef (3 * (k + 1))) ∧ Hid (Foot (fun i => q2 ≤ i) wr w'')) := Lib.hid fun w' hb => by
        obtain ⟨iv, sv, wv, tk, ef, hI⟩ := HJ.out
        have hk9 := HL.out.1.2
        have hm9 := HMM.out
        have := adAny ((hI.later HB9.out).later hb) (Nat.le_trans (Nat.le_of_lt hI.blk.lt) (Nat.le_trans HB9.out.size hb.size)) ⟨vk, vi, vn, vt, vb, ve, s0, s1, s2, s3, s4, s5⟩ HVM.out.1 ⟨HVM.out.2.1, HVM.out.2.2.1⟩ HVM.out.2.2.2 (by omega)
        refine this.mono fun e w'' ⟨h1, iv', sv', wv', tk', h2, h3⟩ => ⟨h1, Lib.hid ⟨iv', sv', wv', tk', ef, ?_⟩, Lib.hid ((Foot.later (HB9.out.up hb)).trans h3)⟩
        rw [List.take_add_one, HV.out]
        simp only [Option.toList_some]
        rw [stF_snoc, rdOf_snoc]
        have e2 : ∀ (x y : List UInt8), (⟨(x ++ y).toArray⟩ : ByteArray) = ⟨x.toArray⟩ ++ ⟨y.toArray⟩ := fun x y => by
          apply ByteArray.ext
          rw [ByteArray.data_append]
          simp
        rw [e2]
        exact h2
      go_wp2_with fail
      refine (FA.out _ (by (repeat' (first | exact Below.refl _ _ | assumption | exact And.left (by assumption) | apply bel_alloc | apply Below.drew)))).mono ?_; rintro e w10 ⟨rfl, HJ2, HF2⟩
      have hgq : g < w.heap.size := HGL.out
      have R10 : Hid (Blk w10 q1 51 #[.int .i64 0, .int .i64 0, .int .i64 0, .slice none 0 0, .slice none 0 0, .string ⟨#[]⟩, .string ⟨#[]⟩, .bool false, .int .i64 0]) := Lib.hid (HR.out.foot HF2.out (by show ¬ q2 ≤ q1; have := R4.out.2; omega))
      have E10 : Hid (EvsAt w10 g LL) := Lib.hid (HE.out.same HF2.out.size (HF2.out.block g HE.out.lt (by show ¬ q2 ≤ g; omega)))
      have B10 : Hid (Below w.heap.size w w10) := Lib.hid (HF2.out.upB HBw.out (fun i hi => Nat.le_trans hqq hi) (Nat.le_refl _))
      clear d hr FA
      have hr := Below.refl w10.heap.size w10
      go_wp2_with fail
      go_roundw
      case rel => exact ⟨k + 1, by go_num, by omega, HJ2, R10, E10, B10⟩
      case measure => simp [intOf]; omega
    · have e1 : ¬ (k : Int) < (m : Int) := by omega
      obtain rfl : k = m := by omega
      obtain ⟨iv, sv, wv, tk, ef, hI⟩ := HJ.out
      have hmr := HMM.out
      rw [List.take_of_length_le (by omega)] at hI
      obtain ⟨st9, hst9⟩ : ∃ x, x = stF 0 rest := ⟨_, rfl⟩
      obtain ⟨rd9, hrd9⟩ : ∃ x : ByteArray, x = ⟨(rdOf rest).toArray⟩ := ⟨_, rfl⟩
      rw [← hst9, ← hrd9] at hI
      have HSR := Lib.hid (And.intro hst9 hrd9)
      obtain ⟨mi, xsi, _, oi⟩ := hI.ir
      obtain ⟨ai9, ci9, hvi, _⟩ := orow_form oi
      subst hvi
      obtain ⟨ms, xss, _, os⟩ := hI.sr
      obtain ⟨as9, cs9, hvs, _⟩ := orow_form os
      subst hvs
      obtain ⟨mw, xsw, _, ow⟩ := hI.wr
      obtain ⟨aw9, cw9, hvw, _⟩ := orow_form ow
      subst hvw
      clear oi os ow
      have d1 := HR.out.at9
      have d2 := hI.blk.at9
      have d3 : ∀ w', Below wr.heap.size wr w' → w'.cell? ⟨q3, 0, none⟩ = some (.slice aw9 mw cw9) := fun w' hb => (hI.wan.later hb).cell 0
      have hr := Below.refl wr.heap.size wr
      have h12 : q1 ≠ q2 ∧ q1 ≠ q3 := by have := R4.out.2; omega
      have HI := Lib.hid hI
      clear hI hst9 hrd9 HJ
      have MK18 : Hid (∀ w', Blk w' q2 51 #[.int .i64 0, .int .i64 bn, .int .i64 at_, .slice ai9 mi ci9, .slice as9 ms cs9, .string rd9, .string tk, .bool ef, .int .i64 st9] → Blk w' q3 61 #[.slice aw9 mw cw9] → (w'.cell? ⟨q2, 0, none⟩ = some (.int .i64 0) ∧ w'.cell? ⟨q2, 1, none⟩ = some (.int .i64 bn) ∧ w'.cell? ⟨q2, 2, none⟩ = some (.int .i64 at_) ∧ w'.cell? ⟨q2, 3, none⟩ = some (.slice ai9 mi ci9) ∧ w'.cell? ⟨q2, 4, none⟩ = some (.slice as9 ms cs9) ∧ w'.cell? ⟨q2, 5, none⟩ = some (.string rd9) ∧ w'.cell? ⟨q2, 6, none⟩ = some (.string tk) ∧ w'.cell? ⟨q2, 7, none⟩ = some (.bool ef) ∧ w'.cell? ⟨q2, 8, none⟩ = some (.int .i64 st9) ∧ w'.cell? ⟨q3, 0, none⟩ = some (.slice aw9 mw cw9))) := Lib.hid fun w' k1 k2 => ⟨k1.cell 0, k1.cell 1, k1.cell 2, k1.cell 3, k1.cell 4, k1.cell 5, k1.cell 6, k1.cell 7, k1.cell 8, k2.cell 0⟩
      have s18 : wr.drew.cell? ⟨q2, 0, none⟩ = some (.int .i64 0) ∧ wr.drew.cell? ⟨q2, 1, none⟩ = some (.int .i64 bn) ∧ wr.drew.cell? ⟨q2, 2, none⟩ = some (.int .i64 at_) ∧ wr.drew.cell? ⟨q2, 3, none⟩ = some (.slice ai9 mi ci9) ∧ wr.drew.cell? ⟨q2, 4, none⟩ = some (.slice as9 ms cs9) ∧ wr.drew.cell? ⟨q2, 5, none⟩ = some (.string rd9) ∧ wr.drew.cell? ⟨q2, 6, none⟩ = some (.string tk) ∧ wr.drew.cell? ⟨q2, 7, none⟩ = some (.bool ef) ∧ wr.drew.cell? ⟨q2, 8, none⟩ = some (.int .i64 st9) ∧ wr.drew.cell? ⟨q3, 0, none⟩ = some (.slice aw9 mw cw9) := MK18.out _ HI.out.blk.drew HI.out.wan.drew
      clear d2 d3
      go_upto_region 18 with fail
      go_upto_region 18 with fail
      refine wp_region_ordL (S := fun w' => w'.cell? ⟨q2, 0, none⟩ = some (.int .i64 0) ∧ w'.cell? ⟨q2, 1, none⟩ = some (.int .i64 bn) ∧ w'.cell? ⟨q2, 2, none⟩ = some (.int .i64 at_) ∧ w'.cell? ⟨q2, 3, none⟩ = some (.slice ai9 mi ci9) ∧ w'.cell? ⟨q2, 4, none⟩ = some (.slice as9 ms cs9) ∧ w'.cell? ⟨q2, 5, none⟩ = some (.string rd9) ∧ w'.cell? ⟨q2, 6, none⟩ = some (.string tk) ∧ w'.cell? ⟨q2, 7, none⟩ = some (.bool ef) ∧ w'.cell? ⟨q2, 8, none⟩ = some (.int .i64 st9) ∧ w'.cell? ⟨q3, 0, none⟩ = some (.slice aw9 mw cw9)) [0, 1, 2, 3, 4] 4 (by kernel_rfl) (by kernel_rfl) (by kernel_rfl) (by kernel_rfl) (by kernel_rfl) (by kernel_rfl) (s18) ?_
      simp only [pickL, List.filterMap_cons, List.filterMap_nil, List.getElem?_cons_zero, List.getElem?_cons_succ]
      repeat (refine ordL_take (v := ?_) (by rfl) (by rfl) ?_ ?_; rotate_left; (focus (intro w hSw; (try dsimp only at hSw); go_simp; (try with_reducible rfl))); simp only [Act.put, List.setIfInBounds_toArray, List.set_cons_zero, List.set_cons_succ])
      refine ordL_lone (by rfl) (by rfl) (fun KK hK => ?_)
      try go_simp
      obtain ⟨w20, hw20⟩ : ∃ w20, w20 = ((((((((((wr.setCell ⟨q1, 0, none⟩ (.int .i64 0)).setCell ⟨q1, 1, none⟩ (.int .i64 bn)).setCell ⟨q1, 2, none⟩ (.int .i64 at_)).setCell ⟨q1, 3, none⟩ (.slice ai9 mi ci9)).setCell ⟨q1, 4, none⟩ (.slice as9 ms cs9)).setCell ⟨q1, 5, none⟩ (.string rd9)).setCell ⟨q1, 6, none⟩ (.string tk)).setCell ⟨q1, 7, none⟩ (.bool ef)).setCell ⟨q1, 8, none⟩ (.int .i64 st9))).drew := ⟨_, rfl⟩
      have f20 : Foot (fun i => i = q1) wr w20 := by rw [hw20]; exact (foot_set9 (F := fun i => i = q1) (Foot.refl _ wr) rfl _ _ _ _ _ _ _ _ _).up (Below.refl _ _).drew
      have K20 : Blk w20 q1 51 #[.int .i64 0, .int .i64 bn, .int .i64 at_, .slice ai9 mi ci9, .slice as9 ms cs9, .string rd9, .string tk, .bool ef, .int .i64 st9] := by rw [hw20]; exact (blk_set9 HR.out _ _ _ _ _ _ _ _ _).drew
      rw [← hw20]
      clear hw20
      have k2 := HI.out.blk.foot f20 (by show ¬ q2 = q1; omega)
      have k3 := HI.out.wan.foot f20 (by show ¬ q3 = q1; omega)
      refine hK.out _ _ (.inr (MK18.out _ k2 k3)) ?_
      clear hK KK
      try simp only [Act.put, List.setIfInBounds_toArray, List.set_cons_zero, List.set_cons_succ]
      repeat (refine ordL_take (v := ?_) (by rfl) (by rfl) ?_ ?_; rotate_left; (focus (intro w hSw; (try dsimp only at hSw); go_simp; (try with_reducible rfl))); simp only [Act.put, List.setIfInBounds_toArray, List.set_cons_zero, List.set_cons_succ])
      refine ordL_done ?_
      have B20 := Lib.hid (f20.upB HBw.out (fun i hi => by rw [hi]; exact R4.out.2.1) (Nat.le_refl _))
      clear k2 k3 f20 s18 MK18 d1 hr
      have d1 := K20.at9
      have hr := Below.refl w20.heap.size w20
      (try simp only [Exit.inBlock, Exit.then])
      go_wp2_with fail
      (try simp only [Exit.inBlock, Exit.then])
      refine bodyPost_ret (v := .tuple #[.agg #[.int .i64 0, .int .i64 bn, .int .i64 at_, .slice ai9 mi ci9, .slice as9 ms cs9, .string rd9, .string tk, .bool ef, .int .i64 st9], .slice aw9 mw cw9, .bool true]) ?_ rfl ?_
      · rw [results_cell_tmp2 rfl]
        go_simp
      · rw [HSR.out.1, HSR.out.2]
        refine ⟨⟨bn, at_, ai9, mi, ci9, as9, ms, cs9, .slice aw9 mw cw9, tk, ?_⟩, B20.out⟩
        cases ef
        · exact .inl rfl
        · exact .inr rfl
set_option maxRecDepth 100000 in
set_option maxHeartbeats 8000000 in
theorem pjOfX {w : World} (g n cap : Nat) (a b : EvT) (rest : List EvT) (h : EvsAt w g (a :: b :: rest)) (hn : n = (a :: b :: rest).length) (hcap : n ≤ cap) (ha : a.k = 1) (hb : b.k = 2) (hi : b.i = 0) (hl : 1 ≤ rest.length ∧ rest.length ≤ 90000) (hr : ∀ v ∈ rest, v.i = 0 ∧ v.k ≠ 5 ∧ v.k ≠ 7 ∧ v.b.size ≤ 1000) :
    Calls Tryz.prog 9 #[.slice (some ⟨g, 0, none⟩) n cap, .int .i64 0] w fun e w' => ∃ sc fr x1 n1 c1 x2 n2 c2 tk ef, e = .returned (.tuple #[.agg #[.int .i64 0, .int .i64 sc, .int .i64 fr, .slice x1 n1 c1, .slice x2 n2 c2, .string ⟨(rdOf rest).toArray⟩, .string tk, .bool ef, .int .i64 (stF 0 rest)], .bool true]) ∧ Below w.heap.size w w' := by
  obtain ⟨q, hq⟩ : ∃ q, w.heap.size = q := ⟨_, rfl⟩
  obtain ⟨w1, hw1⟩ : ∃ w1, w1 = w.alloc (.cells #[.int .i64 0, .int .i64 0, .int .i64 0, .slice none 0 0, .slice none 0 0, .string ⟨#[]⟩, .string ⟨#[]⟩, .bool false, .int .i64 0] 51) := ⟨_, rfl⟩
  have b1 : Below w.heap.size w w1 := by rw [hw1]; exact Below.alloc (Below.refl _ _) (Nat.le_refl _) _
  have K1 : Blk w1 q 51 #[.int .i64 0, .int .i64 0, .int .i64 0, .slice none 0 0, .slice none 0 0, .string ⟨#[]⟩, .string ⟨#[]⟩, .bool false, .int .i64 0] := by rw [hw1, ← hq]; exact Blk.new _ _ _
  have FO := Lib.hid (pjOf (w := w1) g n cap a b rest (h.later b1) hn hcap ha hb hi hl hr)
  have HW1 := Lib.hid hw1
  have HQ := Lib.hid hq
  have B1 := Lib.hid b1
  obtain ⟨st9, hst9⟩ : ∃ x, x = stF 0 rest := ⟨_, rfl⟩
  obtain ⟨rd9, hrd9⟩ : ∃ x : ByteArray, x = ⟨(rdOf rest).toArray⟩ := ⟨_, rfl⟩
  rw [← hst9, ← hrd9] at FO
  rw [← hst9, ← hrd9]
  clear hw1 hq b1 h hn hcap ha hb hi hl hr hst9 hrd9
  go_enter Tryz.func9, Tryz.ntmps9
  go_upto_region 1 with fail
  rw [← HW1.out, HQ.out]
  go_wp2_with fail
  refine FO.out.mono ?_; rintro e w2 ⟨sc, fr, x1, n1, c1, x2, n2, c2, wv, tk, ef, rfl, b2⟩
  have b2' : Below w1.heap.size w1 w2 := by first | exact b2 | exact (Below.refl _ _).drew.up b2
  have K2 := K1.later b2'
  obtain ⟨q3, hq3⟩ : ∃ q, w2.heap.size = q := ⟨_, rfl⟩
  obtain ⟨w3, hw3⟩ : ∃ w3, w3 = w2.alloc (.cells #[.int .i64 0, .int .i64 sc, .int .i64 fr, .slice x1 n1 c1, .slice x2 n2 c2, .string rd9, .string tk, .bool ef, .int .i64 st9] 51) := ⟨_, rfl⟩
  have b3 : Below w2.heap.size w2 w3 := by rw [hw3]; exact Below.alloc (Below.refl _ _) (Nat.le_refl _) _
  have K3 := K2.later b3
  have L3 : Blk w3 q3 51 #[.int .i64 0, .int .i64 sc, .int .i64 fr, .slice x1 n1 c1, .slice x2 n2 c2, .string rd9, .string tk, .bool ef, .int .i64 st9] := by rw [hw3, ← hq3]; exact Blk.new _ _ _
  have HW3 := Lib.hid hw3
  have HQ3 := Lib.hid hq3
  have B3 := Lib.hid ((B1.out.up b2').up b3)
  clear hw3 hq3 b3 b2 b2' K2 K1 FO
  go_upto_region 2 with fail
  rw [← HW3.out, HQ3.out]
  have d1 := K3.at9
  have d2 := L3.at9
  have hr := Below.refl w3.heap.size w3
  go_wp2_with fail
  obtain ⟨w20, hw20⟩ : ∃ w20, w20 = (((((((((w3.setCell ⟨q, 0, none⟩ (.int .i64 0)).setCell ⟨q, 1, none⟩ (.int .i64 sc)).setCell ⟨q, 2, none⟩ (.int .i64 fr)).setCell ⟨q, 3, none⟩ (.slice x1 n1 c1)).setCell ⟨q, 4, none⟩ (.slice x2 n2 c2)).setCell ⟨q, 5, none⟩ (.string rd9)).setCell ⟨q, 6, none⟩ (.string tk)).setCell ⟨q, 7, none⟩ (.bool ef)).setCell ⟨q, 8, none⟩ (.int .i64 st9)) := ⟨_, rfl⟩
  have f20 : Foot (fun i => i = q) w3 w20 := by rw [hw20]; exact foot_set9 (F := fun i => i = q) (Foot.refl _ w3) rfl _ _ _ _ _ _ _ _ _
  have K20 : Blk w20 q 51 #[.int .i64 0, .int .i64 sc, .int .i64 fr, .slice x1 n1 c1, .slice x2 n2 c2, .string rd9, .string tk, .bool ef, .int .i64 st9] := by rw [hw20]; exact blk_set9 K3 _ _ _ _ _ _ _ _ _
  have B20 := Lib.hid (f20.upB B3.out (fun i hi => by rw [hi, ← HQ.out]; exact Nat.le_refl _) (Nat.le_refl _))
  (try simp only [Exit.inBlock, Exit.then])
  rw [← hw20]
  clear hw20 d1 d2 hr f20
  have d1 := K20.at9
  have hr := Below.refl w20.heap.size w20
  refine bodyPost_ret (v := .tuple #[.agg #[.int .i64 0, .int .i64 sc, .int .i64 fr, .slice x1 n1 c1, .slice x2 n2 c2, .string rd9, .string tk, .bool ef, .int .i64 st9], .bool true]) ?_ rfl ?_
  · rw [results_cell_tmp rfl]
    go_simp
  · exact ⟨sc, fr, x1, n1, c1, x2, n2, c2, tk, ef, rfl, B20.out⟩
end Go.Proofs.YtbhgmccaecmpjaaGreat
