/-
  reparteetop.TopNothingLost: its walk.
  Conditions: none.
-/
import Derived.Test.YtbhgmccaecmpjaaGreatW51
namespace Go.Proofs.YtbhgmccaecmpjaaGreat
set_option linter.unusedVariables false
set_option linter.unusedSimpArgs false
open Go.RowKit

def lightB (l r n o q v : Int) : Bool := !goodB l r n o q v || (decide (n < 33) && decide (r < 65) && decide (l < 9) && decide (v < 9))
set_option maxRecDepth 100000 in
set_option maxHeartbeats 8000000 in
theorem tpLight (l r n o q v : Int) (w : World) : Calls Tryz.prog 4 #[.agg #[.int .i64 l, .int .i64 r, .int .i64 n, .int .i64 o, .int .i64 q, .int .i64 v]] w fun e w' => e = .returned (.bool (lightB l r n o q v)) ∧ Below w.heap.size w w' := by
  have FG := Lib.hid (fun w => rGood l r n o q v w)
  obtain ⟨q1, hq⟩ : ∃ q, w.heap.size = q := ⟨_, rfl⟩
  obtain ⟨w1, hw1⟩ : ∃ w1, w1 = w.alloc (.cells #[.int .i64 l, .int .i64 r, .int .i64 n, .int .i64 o, .int .i64 q, .int .i64 v] 23) := ⟨_, rfl⟩
  have b1 : Below w.heap.size w w1 := by rw [hw1]; exact Below.alloc (Below.refl _ _) (Nat.le_refl _) _
  have K1 : Blk w1 q1 23 #[.int .i64 l, .int .i64 r, .int .i64 n, .int .i64 o, .int .i64 q, .int .i64 v] := by rw [hw1, ← hq]; exact Blk.new _ _ _
  have HW1 := Lib.hid hw1
  have HQ := Lib.hid hq
  have B1 := Lib.hid b1
  clear hw1 hq b1
  obtain ⟨gb, hgb⟩ : ∃ gb, gb = goodB l r n o q v := ⟨_, rfl⟩
  unfold lightB
  rw [← hgb]
  obtain ⟨rb, hrb⟩ : ∃ rb, rb = (!gb || (decide (n < 33) && decide (r < 65) && decide (l < 9) && decide (v < 9))) := ⟨_, rfl⟩
  rw [← hrb]
  have HRB := Lib.hid hrb
  clear hrb
  have FG2 : Hid (∀ w, Calls Tryz.prog 5 #[.agg #[.int .i64 l, .int .i64 r, .int .i64 n, .int .i64 o, .int .i64 q, .int .i64 v]] w fun e w' => e = .returned (.bool gb) ∧ Below w.heap.size w w') := Lib.hid (by rw [hgb]; exact FG.out)
  clear hgb FG
  go_enter Tryz.func4, Tryz.ntmps4
  go_upto_region 1 with fail
  rw [← HW1.out, HQ.out]
  have d1 := K1.at6
  have hr := Below.refl w1.heap.size w1
  go_wp2_with fail
  refine (FG2.out _).mono ?_; rintro r9 w2 ⟨rfl, b2⟩
  have b2' : Below w1.heap.size w1 w2 := by first | exact b2 | exact (Below.refl _ _).drew.up b2
  have K2 := K1.later b2'
  have B2 := Lib.hid (B1.out.up b2')
  clear d1 hr b2 b2' K1 FG2
  have d1 := K2.at6
  have hr := Below.refl w2.heap.size w2
  cases gb
  · obtain rfl : rb = true := by rw [HRB.out]; rfl
    go_wp2_with fail
    go_ret
    exact ⟨rfl, B2.out⟩
  · by_cases h1 : n < 33
    · by_cases h2 : r < 65
      · by_cases h3 : l < 9
        · by_cases h4 : v < 9
          · have e1 : decide (n < 33) = true := decide_eq_true h1
            have e2 : decide (r < 65) = true := decide_eq_true h2
            have e3 : decide (l < 9) = true := decide_eq_true h3
            have e4 : decide (v < 9) = true := decide_eq_true h4
            obtain rfl : rb = true := by rw [HRB.out, e1, e2, e3, e4]; rfl
            go_wp2_with fail
            (try simp only [Exit.inBlock, Exit.then])
            exact bodyPost_ret (v := .bool true) (by simp [results, Tryz.results4, go_sem, h1, h2, h3, h4]) rfl ⟨rfl, B2.out⟩
          · have e1 : decide (n < 33) = true := decide_eq_true h1
            have e2 : decide (r < 65) = true := decide_eq_true h2
            have e3 : decide (l < 9) = true := decide_eq_true h3
            have e4 : decide (v < 9) = false := decide_eq_false h4
            obtain rfl : rb = false := by rw [HRB.out, e1, e2, e3, e4]; rfl
            go_wp2_with fail
            (try simp only [Exit.inBlock, Exit.then])
            exact bodyPost_ret (v := .bool false) (by simp [results, Tryz.results4, go_sem, h1, h2, h3, h4]) rfl ⟨rfl, B2.out⟩
        · have e1 : decide (n < 33) = true := decide_eq_true h1
          have e2 : decide (r < 65) = true := decide_eq_true h2
          have e3 : decide (l < 9) = false := decide_eq_false h3
          obtain rfl : rb = false := by rw [HRB.out, e1, e2, e3]; rfl
          go_wp2_with fail
          (try simp only [Exit.inBlock, Exit.then])
          exact bodyPost_ret (v := .bool false) (by simp [results, Tryz.results4, go_sem, h1, h2, h3]) rfl ⟨rfl, B2.out⟩
      · have e1 : decide (n < 33) = true := decide_eq_true h1
        have e2 : decide (r < 65) = false := decide_eq_false h2
        obtain rfl : rb = false := by rw [HRB.out, e1, e2]; rfl
        go_wp2_with fail
        (try simp only [Exit.inBlock, Exit.then])
        exact bodyPost_ret (v := .bool false) (by simp [results, Tryz.results4, go_sem, h1, h2]) rfl ⟨rfl, B2.out⟩
    · have e1 : decide (n < 33) = false := decide_eq_false h1
      obtain rfl : rb = false := by rw [HRB.out, e1]; rfl
      go_wp2_with fail
      (try simp only [Exit.inBlock, Exit.then])
      exact bodyPost_ret (v := .bool false) (by simp [results, Tryz.results4, go_sem, h1]) rfl ⟨rfl, B2.out⟩
theorem tpCut (s : ByteArray) (w : World) : Calls Tryz.prog 7 #[.string s, .int .i64 20] w fun e w' => ∃ b : ByteArray, e = .returned (.string b) ∧ b.size ≤ 20 ∧ w = w' := by
  by_cases h : (s.size : Int) ≤ 20
  · have h1 : ¬ (20 : Int) < (s.size : Int) := by omega
    go_enter Tryz.func7, Tryz.ntmps7
    go_wp2_with fail
    go_ret
    exact ⟨s, rfl, by omega, rfl⟩
  · have h1 : (20 : Int) < (s.size : Int) := by omega
    have h2 : 20 < s.size := by omega
    have h3 : (20 : Int) ≤ (s.size : Int) := by omega
    go_enter Tryz.func7, Tryz.ntmps7
    go_wp2_with fail
    go_ret
    refine ⟨_, rfl, ?_, rfl⟩
    simp; omega
theorem info_Round : (Tryz.prog.info? 39).map (fun i => (i.zero, i.size, i.bytes)) = some (some (.agg #[.int .i64 0, .slice none 0 0, .slice none 0 0, .slice none 0 0, .int .i64 0, .bool false]), 6, 96) := by kernel_rfl
theorem orow_new {e : TypeId} {k B g : Nat} {w : World} {cs : Array Value} (h : Blk w g e cs) (hk : cs.size = k) (hB : B ≤ g) : ORow e k B w (.slice (some ⟨g, 0, none⟩) 1 1) 1 cs.toList :=
  ⟨by rw [Nat.one_mul]; simpa using hk, .inr ⟨g, 1, cs, rfl, hB, h, Nat.le_refl _, by unfold maxLen; decide, by rw [Nat.one_mul]; exact hk, by rw [Nat.one_mul, List.take_of_length_le (by rw [← hk]; simp)]⟩⟩
/-- A round's cells. -/
def rdC (x : RdT × RB) : List Value := [.int .i64 x.1.tk, sl1 x.1.op x.2.go x.2.co, sl1 x.1.of.isSome x.2.gf x.2.cf, sl1 x.1.rp.isSome x.2.gr x.2.cr, .int .i64 0, .bool false]
def rdsC (l : List (RdT × RB)) : List Value := l.flatMap rdC
theorem rdsC_len (l : List (RdT × RB)) : (rdsC l).length = l.length * 6 := by
  induction l with
  | nil => rfl
  | cons x l ih => show (rdC x ++ rdsC l).length = _; rw [List.length_append, ih]; simp [rdC]; omega
theorem rdsC_snoc (l : List (RdT × RB)) (x : RdT × RB) : rdsC (l ++ [x]) = rdsC l ++ rdC x := by unfold rdsC; simp
/-- What lies in a round's slices, as blocks. -/
structure RBk (w : World) (x : RdT × RB) : Prop where
  o : x.1.op = true → Blk w x.2.go 3 #[.int .i64 0]
  f : ∀ u, x.1.of = some u → Blk w x.2.gf 35 #[.int .i64 0, .string u, .bool false]
  r : ∀ b k, x.1.rp = some (b, k) → Blk w x.2.gr 42 #[.int .i64 0, .bool true, .bool b, .int .i64 k]
theorem RBk.at_ {w : World} {x : RdT × RB} (h : RBk w x) : RAt w x.1 x.2 :=
  ⟨fun e => ⟨(h.o e).lt, (h.o e).cell 0⟩, fun u e => ⟨(h.f u e).lt, (h.f u e).cell 0, (h.f u e).cell 1, (h.f u e).cell 2⟩, fun b k e => ⟨(h.r b k e).lt, (h.r b k e).cell 0, (h.r b k e).cell 1, (h.r b k e).cell 2, (h.r b k e).cell 3⟩⟩
theorem RBk.later {w w' : World} {x : RdT × RB} (h : RBk w x) (b : Below w.heap.size w w') : RBk w' x := ⟨fun e => (h.o e).later b, fun u e => (h.f u e).later b, fun c k e => (h.r c k e).later b⟩
/-- A row of rounds has grown. -/
theorem RBk.grown {w w' : World} {x : RdT × RB} (h : RBk w x) {v : Value} (g : w.grownBy w' v.ownBlock) (hv : ∀ i, v.ownBlock = some i → ∃ cur, Blk w i 39 cur) : RBk w' x := by
  have f : Foot (fun i => v.ownBlock = some i) w w' := Foot.grown g (fun _ e => e)
  exact ⟨fun e => (h.o e).foot f (fun hi => by obtain ⟨_, hc⟩ := hv _ hi; exact (hc.type_ne (h.o e) (by decide)) rfl), fun u e => (h.f u e).foot f (fun hi => by obtain ⟨_, hc⟩ := hv _ hi; exact (hc.type_ne (h.f u e) (by decide)) rfl), fun c k e => (h.r c k e).foot f (fun hi => by obtain ⟨_, hc⟩ := hv _ hi; exact (hc.type_ne (h.r c k e) (by decide)) rfl)⟩
theorem RndsAt.of {w : World} {g cap n B : Nat} {l : List (RdT × RB)} (h : ORow 39 6 B w (.slice (some ⟨g, 0, none⟩) n cap) l.length (rdsC l)) (h1 : 1 ≤ l.length) (hb : ∀ x ∈ l, RBk w x) : RndsAt w g l := by
  have at_ : ∀ j, j < l.length * 6 → w.cell? ⟨g, j, none⟩ = (rdsC l)[j]? ∧ g < w.heap.size := fun j hj => by
    obtain ⟨g2, hg, hl, hc⟩ := orow_cell h j (by rw [rdsC_len]; exact hj)
    cases hg
    exact ⟨hc w (Below.refl _ _), hl⟩
  have key : ∀ (l : List (RdT × RB)) (i : Nat) x, l[i]? = some x → ∀ j, j < 6 → (rdsC l)[i * 6 + j]? = (rdC x)[j]? := by
    intro l
    induction l with
    | nil => intro i x hx; simp at hx
    | cons y l ih =>
      intro i x hx j hj
      show (rdC y ++ rdsC l)[i * 6 + j]? = _
      have hy : (rdC y).length = 6 := rfl
      cases i with
      | zero =>
        simp at hx
        subst hx
        rw [Nat.zero_mul, Nat.zero_add, List.getElem?_append_left (by omega)]
      | succ i =>
        rw [List.getElem?_append_right (by omega), hy, show (i + 1) * 6 + j - 6 = i * 6 + j by omega]
        exact ih i x (by simpa using hx) j hj
  refine ⟨(at_ 0 (by omega)).2, fun i R rb hx => ?_, fun i R rb hx => (hb _ (List.mem_of_getElem? hx)).at_⟩
  have hi : i < l.length := (List.getElem?_eq_some_iff.1 hx).1
  have c : ∀ j, j < 6 → w.cell? ⟨g, i * 6 + j, none⟩ = (rdC (R, rb))[j]? := fun j hj => ((at_ (i * 6 + j) (by omega)).1).trans (key l i _ hx j hj)
  exact ⟨c 0 (by omega), c 1 (by omega), c 2 (by omega), c 3 (by omega), c 4 (by omega), c 5 (by omega)⟩
set_option maxRecDepth 100000 in
set_option maxHeartbeats 8000000 in
theorem tpNothing (l r n o q v : Int) (b : ByteArray) (k : Int) (hk : 0 ≤ k ∧ k ≤ 255) (w : World) : Calls Tryz.prog 3 #[.agg #[.int .i64 l, .int .i64 r, .int .i64 n, .int .i64 o, .int .i64 q, .int .i64 v], .string b, .int .u8 k] w fun e w' => e = .returned (.bool true) ∧ Below w.heap.size w w' := by
  have FL := Lib.hid (fun w => tpLight l r n o q v w)
  have FG := Lib.hid (fun w => rGood l r n o q v w)
  have FV := Lib.hid tpLives
  have FC := Lib.hid (fun w => tpCut b w)
  obtain ⟨q1, hq⟩ : ∃ q, w.heap.size = q := ⟨_, rfl⟩
  obtain ⟨w1, hw1⟩ : ∃ w1, w1 = w.alloc (.cells #[.int .i64 l, .int .i64 r, .int .i64 n, .int .i64 o, .int .i64 q, .int .i64 v] 23) := ⟨_, rfl⟩
  have b1 : Below w.heap.size w w1 := by rw [hw1]; exact Below.alloc (Below.refl _ _) (Nat.le_refl _) _
  have K1 : Blk w1 q1 23 #[.int .i64 l, .int .i64 r, .int .i64 n, .int .i64 o, .int .i64 q, .int .i64 v] := by rw [hw1, ← hq]; exact Blk.new _ _ _
  have HW1 := Lib.hid hw1
  have HQ := Lib.hid hq
  have B1 := Lib.hid b1
  have HK := Lib.hid hk
  clear hw1 hq b1 hk
  go_enter Tryz.func3, Tryz.ntmps3
  go_upto_region 1 with fail
  rw [← HW1.out, HQ.out]
  have d1 := K1.at6
  have hr := Below.refl w1.heap.size w1
  go_wp2_with fail
  refine (FL.out _).mono ?_; rintro r9 w2 ⟨rfl, b2⟩
  have b2' : Below w1.heap.size w1 w2 := by first | exact b2 | exact (Below.refl _ _).drew.up b2
  have K2 := K1.later b2'
  have B2 := Lib.hid (B1.out.up b2')
  clear d1 hr b2 b2' K1 FL
  have d1 := K2.at6
  have hr := Below.refl w2.heap.size w2
  cases hli : lightB l r n o q v
  · go_wp2_with fail
    refine (FV.out _).mono ?_; rintro r9 w3 ⟨rfl, b3⟩
    have b3' : Below w2.heap.size w2 w3 := by first | exact b3 | exact (Below.refl _ _).drew.up b3
    have B3 := Lib.hid (B2.out.up b3')
    clear d1 hr b3 b3'
    go_wp2_with fail
    go_ret
    exact ⟨rfl, B3.out⟩
  · go_wp2_with fail
    refine (FG.out _).mono ?_; rintro r9 w3 ⟨rfl, b3⟩
    have b3' : Below w2.heap.size w2 w3 := by first | exact b3 | exact (Below.refl _ _).drew.up b3
    have K3 := K2.later b3'
    have B3 := Lib.hid (B2.out.up b3')
    clear d1 hr b3 b3' K2 B2 FG
    have d1 := K3.at6
    have hr := Below.refl w3.heap.size w3
    cases hgo : goodB l r n o q v
    · go_wp2_with fail
      refine (FV.out _).mono ?_; rintro r9 w4 ⟨rfl, b4⟩
      have b4' : Below w3.heap.size w3 w4 := by first | exact b4 | exact (Below.refl _ _).drew.up b4
      have B4 := Lib.hid (B3.out.up b4')
      clear d1 hr b4 b4'
      go_wp2_with fail
      go_ret
      exact ⟨rfl, B4.out⟩
    · have HGO := Lib.hid hgo
      clear hgo hli
      go_wp2_with fail
      refine (FC.out _).mono ?_; rintro r9 w4 ⟨b', rfl, hb', rfl⟩
      have HB' := Lib.hid hb'
      clear hb' FC d1 hr
      obtain ⟨k9, hk9⟩ : ∃ k9, k9 = RowKit.wrap64 (k.tmod 9) := ⟨_, rfl⟩
      have hk8 : 0 ≤ k9 ∧ k9 ≤ 8 := by
        have h1 := HK.out
        have h2 : k.tmod 9 = k % 9 := Int.tmod_eq_emod_of_nonneg h1.1
        rw [hk9, h2]
        unfold RowKit.wrap64
        omega
      have HK9 := Lib.hid hk9
      obtain ⟨v0, hv0⟩ : ∃ v0, v0 = w3.alloc (.cells #[.int .i64 4, .string ⟨#[]⟩, .int .i64 k9, .int .i64 0, .slice none 0 0, .int .i64 0, .int .i64 0, .int .i64 2, .string ⟨#[]⟩, .int .i64 9223372036854775807, .int .i64 0, .slice none 0 0, .int .i64 (-1), .int .i64 (-1)] 29) := ⟨_, rfl⟩
      have C0 : Blk v0 (w3.heap.size) 29 #[.int .i64 4, .string ⟨#[]⟩, .int .i64 k9, .int .i64 0, .slice none 0 0, .int .i64 0, .int .i64 0, .int .i64 2, .string ⟨#[]⟩, .int .i64 9223372036854775807, .int .i64 0, .slice none 0 0, .int .i64 (-1), .int .i64 (-1)] := by rw [hv0]; exact Blk.new _ _ _
      have c0 : Below w3.heap.size w3 v0 := by rw [hv0]; exact Below.alloc (Below.refl _ _) (Nat.le_refl _) _
      have s0 : v0.heap.size = w3.heap.size + 1 := by rw [hv0]; simp
      obtain ⟨v1, hv1⟩ : ∃ v1, v1 = v0.alloc (.cells #[.string ⟨#[97]⟩, .int .i64 9223372036854775807, .int .i64 0, .slice (some ⟨w3.heap.size, 0, none⟩) 2 2] 32) := ⟨_, rfl⟩
      have C1 : Blk v1 (w3.heap.size + 1) 32 #[.string ⟨#[97]⟩, .int .i64 9223372036854775807, .int .i64 0, .slice (some ⟨w3.heap.size, 0, none⟩) 2 2] := by rw [hv1, ← s0]; exact Blk.new _ _ _
      have c1 : Below v0.heap.size v0 v1 := by rw [hv1]; exact Below.alloc (Below.refl _ _) (Nat.le_refl _) _
      have s1 : v1.heap.size = w3.heap.size + 1 + 1 := by rw [hv1]; simp [s0]
      obtain ⟨v2, hv2⟩ : ∃ v2, v2 = v1.alloc (.cells #[.int .i64 0] 3) := ⟨_, rfl⟩
      have C2 : Blk v2 (w3.heap.size + 1 + 1) 3 #[.int .i64 0] := by rw [hv2, ← s1]; exact Blk.new _ _ _
      have c2 : Below v1.heap.size v1 v2 := by rw [hv2]; exact Below.alloc (Below.refl _ _) (Nat.le_refl _) _
      have s2 : v2.heap.size = w3.heap.size + 1 + 1 + 1 := by rw [hv2]; simp [s1]
      obtain ⟨v3, hv3⟩ : ∃ v3, v3 = v2.alloc (.cells #[.int .i64 0, .string b', .bool false] 35) := ⟨_, rfl⟩
      have C3 : Blk v3 (w3.heap.size + 1 + 1 + 1) 35 #[.int .i64 0, .string b', .bool false] := by rw [hv3, ← s2]; exact Blk.new _ _ _
      have c3 : Below v2.heap.size v2 v3 := by rw [hv3]; exact Below.alloc (Below.refl _ _) (Nat.le_refl _) _
      have s3 : v3.heap.size = w3.heap.size + 1 + 1 + 1 + 1 := by rw [hv3]; simp [s2]
      obtain ⟨v4, hv4⟩ : ∃ v4, v4 = v3.alloc (.cells #[.int .i64 0, .slice (some ⟨w3.heap.size + 1 + 1, 0, none⟩) 1 1, .slice (some ⟨w3.heap.size + 1 + 1 + 1, 0, none⟩) 1 1, .slice none 0 0, .int .i64 0, .bool false] 39) := ⟨_, rfl⟩
      have C4 : Blk v4 (w3.heap.size + 1 + 1 + 1 + 1) 39 #[.int .i64 0, .slice (some ⟨w3.heap.size + 1 + 1, 0, none⟩) 1 1, .slice (some ⟨w3.heap.size + 1 + 1 + 1, 0, none⟩) 1 1, .slice none 0 0, .int .i64 0, .bool false] := by rw [hv4, ← s3]; exact Blk.new _ _ _
      have c4 : Below v3.heap.size v3 v4 := by rw [hv4]; exact Below.alloc (Below.refl _ _) (Nat.le_refl _) _
      have s4 : v4.heap.size = w3.heap.size + 1 + 1 + 1 + 1 + 1 := by rw [hv4]; simp [s3]
      have hv : v4 = (((((w3.alloc (.cells #[.int .i64 4, .string ⟨#[]⟩, .int .i64 k9, .int .i64 0, .slice none 0 0, .int .i64 0, .int .i64 0, .int .i64 2, .string ⟨#[]⟩, .int .i64 9223372036854775807, .int .i64 0, .slice none 0 0, .int .i64 (-1), .int .i64 (-1)] 29)).alloc (.cells #[.string ⟨#[97]⟩, .int .i64 9223372036854775807, .int .i64 0, .slice (some ⟨w3.heap.size, 0, none⟩) 2 2] 32)).alloc (.cells #[.int .i64 0] 3)).alloc (.cells #[.int .i64 0, .string b', .bool false] 35)).alloc (.cells #[.int .i64 0, .slice (some ⟨w3.heap.size + 1 + 1, 0, none⟩) 1 1, .slice (some ⟨w3.heap.size + 1 + 1 + 1, 0, none⟩) 1 1, .slice none 0 0, .int .i64 0, .bool false] 39)) := by rw [hv4, hv3, hv2, hv1, hv0]
      have cc := (((c0.up c1).up c2).up c3).up c4
      have HV4 := Lib.hid hv
      have HBl : Hid (Below w3.heap.size w3 v4) := Lib.hid cc
      have HO0 : Hid (Blk v4 w3.heap.size 29 #[.int .i64 4, .string ⟨#[]⟩, .int .i64 k9, .int .i64 0, .slice none 0 0, .int .i64 0, .int .i64 0, .int .i64 2, .string ⟨#[]⟩, .int .i64 9223372036854775807, .int .i64 0, .slice none 0 0, .int .i64 (-1), .int .i64 (-1)]) := Lib.hid ((((C0.later c1).later c2).later c3).later c4)
      have HP0 : Hid (Blk v4 (w3.heap.size + 1) 32 #[.string ⟨#[97]⟩, .int .i64 9223372036854775807, .int .i64 0, .slice (some ⟨w3.heap.size, 0, none⟩) 2 2]) := Lib.hid (((C1.later c2).later c3).later c4)
      have HX0 : Hid (∃ Rs : List (RdT × RB), Rs.map (·.1) = R0L b' :: List.replicate 0 RL ∧ ORow 39 6 w3.heap.size v4 (.slice (some ⟨w3.heap.size + 1 + 1 + 1 + 1, 0, none⟩) 1 1) 1 (rdsC Rs) ∧ ∀ x ∈ Rs, RBk v4 x) := Lib.hid ⟨[(R0L b', ⟨w3.heap.size + 1 + 1, 1, w3.heap.size + 1 + 1 + 1, 1, 0, 0⟩)], rfl, orow_new C4 rfl (by omega), fun x hx => by
        obtain rfl := List.mem_singleton.1 hx
        exact ⟨fun _ => (C2.later c3).later c4, fun u e => (by cases e; exact C3.later c4), fun b k e => (by cases e)⟩⟩
      clear cc c0 c1 c2 c3 c4 s0 s1 s2 s3 s4 C0 C1 C2 C3 C4 hv hv0 hv1 hv2 hv3 hv4 hk9
      go_upto_region 6 with fail
      rw [← HK9.out, ← HV4.out]
      obtain ⟨go, hgo⟩ : ∃ go, go = w3.heap.size + 1 + 1 + 1 + 1 := ⟨_, rfl⟩
      rw [← hgo] at HX0
      rw [← hgo]
      clear hgo
      have hr := Below.refl v4.heap.size v4
      go_wp2_with fail
      clear hr
      go_loopw [8, 9] (fun ov iv wr => ∃ (i : Nat) (ao : Option Addr) (cap : Nat), iv = .int .i64 i ∧ i ≤ 60 ∧ ov = .slice ao (i + 1) cap ∧ Hid (∃ Rs : List (RdT × RB), Rs.map (·.1) = R0L b' :: List.replicate i RL ∧ ORow 39 6 w3.heap.size wr (.slice ao (i + 1) cap) (i + 1) (rdsC Rs) ∧ ∀ x ∈ Rs, RBk wr x) ∧ Hid (Blk wr w3.heap.size 29 #[.int .i64 4, .string ⟨#[]⟩, .int .i64 k9, .int .i64 0, .slice none 0 0, .int .i64 0, .int .i64 0, .int .i64 2, .string ⟨#[]⟩, .int .i64 9223372036854775807, .int .i64 0, .slice none 0 0, .int .i64 (-1), .int .i64 (-1)]) ∧ Hid (Blk wr (w3.heap.size + 1) 32 #[.string ⟨#[97]⟩, .int .i64 9223372036854775807, .int .i64 0, .slice (some ⟨w3.heap.size, 0, none⟩) 2 2]) ∧ Hid (Below w3.heap.size w3 wr)) (fun _ iv _ => 60 - (intOf iv).toNat)
      case atStart => exact ⟨0, some ⟨go, 0, none⟩, 1, rfl, by omega, rfl, HX0, HO0, HP0, HBl⟩
      case round =>
        clear HX0 HO0 HP0 HBl HV4 HK9
        obtain ⟨i, ao, cap, rfl, hi, rfl, HX, HO, HP, HB⟩ := hrel
        by_cases hlt : i < 60
        · have e1 : (i : Int) < 60 := by omega
          have s3 : IntKind.i64.wrap ((i : Int) + 1) = ((i + 1 : Nat) : Int) := by rw [IntWalk.i64_in _ (by omega)]; omega
          obtain ⟨Rs, hRs, hRo, hRb⟩ := HX.out
          obtain ⟨u1, hu1⟩ : ∃ u1, u1 = wr.alloc (.cells #[.int .i64 0, .bool true, .bool false, .int .i64 0] 42) := ⟨_, rfl⟩
          have D1 : Blk u1 wr.heap.size 42 #[.int .i64 0, .bool true, .bool false, .int .i64 0] := by rw [hu1]; exact Blk.new _ _ _
          have f1 : Below wr.heap.size wr u1 := by rw [hu1]; exact Below.alloc (Below.refl _ _) (Nat.le_refl _) _
          obtain ⟨u2, hu2⟩ : ∃ u2, u2 = u1.alloc (.cells #[.int .i64 1, .slice none 0 0, .slice none 0 0, .slice (some ⟨wr.heap.size, 0, none⟩) 1 1, .int .i64 0, .bool false] 39) := ⟨_, rfl⟩
          have f2 : Below u1.heap.size u1 u2 := by rw [hu2]; exact Below.alloc (Below.refl _ _) (Nat.le_refl _) _
          have E2 : Blk u2 u1.heap.size 39 #[.int .i64 1, .slice none 0 0, .slice none 0 0, .slice (some ⟨wr.heap.size, 0, none⟩) 1 1, .int .i64 0, .bool false] := by rw [hu2]; exact Blk.new _ _ _
          have su : u1.heap.size = wr.heap.size + 1 := by rw [hu1]; simp
          rw [su] at E2
          have hu : u2 = (wr.alloc (.cells #[.int .i64 0, .bool true, .bool false, .int .i64 0] 42)).alloc (.cells #[.int .i64 1, .slice none 0 0, .slice none 0 0, .slice (some ⟨wr.heap.size, 0, none⟩) 1 1, .int .i64 0, .bool false] 39) := by rw [hu2, hu1]
          have HU := Lib.hid hu
          have HE := Lib.hid E2
          have hszB := HB.out.size
          have XB := Lib.hid (HB.out.up (f1.up f2))
          have XO := Lib.hid (HO.out.later (f1.up f2))
          have XP := Lib.hid (HP.out.later (f1.up f2))
          have XR := Lib.hid (fun x hx => (hRb x hx).later (f1.up f2))
          have XD := Lib.hid (D1.later f2)
          have XM := Lib.hid hRs
          have XS := Lib.hid (orow_later hRo (f1.up f2))
          clear hu1 hu2 f1 f2 D1 E2 hRb hRs HX HO HP HB su hu
          go_wp2_with (at_builtin; refine wpList_append_elem info_Round rfl (by decide) (by decide) Tryz.underlying40 _ rfl _ _ rfl w3.heap.size (.slice ao (i + 1) cap) (i + 1) (rdsC Rs) rfl (World.ownsRow.alloc (World.ownsRow.alloc hRo _) _) (wr.heap.size + 1) rfl [.int .i64 1, .slice none 0 0, .slice none 0 0, .slice (some ⟨wr.heap.size, 0, none⟩) 1 1, .int .i64 0, .bool false] rfl ?ta1 ?ta2 (by omega) ?ta3 ?ta4)
          case ta1 => intro j u hj; rw [← HU.out]; exact (HE.out.cell j).trans (by simpa using hj)
          case ta2 => intro u hu; simp at hu; rcases hu with rfl | rfl | rfl | rfl | rfl | rfl <;> rfl
          case ta3 => simp; omega
          case ta4 =>
            intro ao' cap' w5 o5 g5
            rw [← HU.out] at g5
            have FB : ∀ j, (Value.slice ao (i + 1) cap).ownBlock = some j → ∃ cur, Blk u2 j 39 cur := fun j hj => by
              rcases XS.out.2 with ⟨h1, h2⟩ | ⟨g, cap', cur, h1, h2, h3, h4⟩
              · omega
              · cases h1; cases hj; exact ⟨cur, h3⟩
            have FT : Foot (fun j => (Value.slice ao (i + 1) cap).ownBlock = some j) u2 w5 := Foot.grown g5 (fun _ e => e)
            have B5 := orow_below XS.out XB.out g5 (Nat.le_refl _)
            have YO := Lib.hid (XO.out.foot FT (fun hi => by obtain ⟨_, hc⟩ := FB _ hi; exact (hc.type_ne XO.out (by decide)) rfl))
            have YP := Lib.hid (XP.out.foot FT (fun hi => by obtain ⟨_, hc⟩ := FB _ hi; exact (hc.type_ne XP.out (by decide)) rfl))
            have YD : RBk w5 (RL, ⟨0, 0, 0, 0, wr.heap.size, 1⟩) := ⟨fun e => (by cases e), fun u e => (by cases e), fun b k e => (by cases e; exact XD.out.foot FT (fun hi => by obtain ⟨_, hc⟩ := FB _ hi; exact (hc.type_ne XD.out (by decide)) rfl))⟩
            have YX : Hid (∃ Rs : List (RdT × RB), Rs.map (·.1) = R0L b' :: List.replicate (i + 1) RL ∧ ORow 39 6 w3.heap.size w5 (.slice ao' (i + 1 + 1) cap') (i + 1 + 1) (rdsC Rs) ∧ ∀ x ∈ Rs, RBk w5 x) := Lib.hid ⟨Rs ++ [(RL, ⟨0, 0, 0, 0, wr.heap.size, 1⟩)], by rw [List.map_append, XM.out, List.replicate_succ']; rfl, by rw [rdsC_snoc]; exact o5, fun x hx => by
              rcases List.mem_append.1 hx with h | h
              · exact (XR.out x h).grown g5 FB
              · obtain rfl := List.mem_singleton.1 h; exact YD⟩
            have YB := Lib.hid B5
            clear o5 g5 FB FT B5 YD hRo XS XO XP XR XD XM XB HU HE
            go_wp2_with fail
            go_roundw
            case rel => exact ⟨i + 1, ao', cap', by go_num, by omega, rfl, YX, YO, YP, YB⟩
            case measure => simp [intOf]; omega
        · have e1 : ¬ (i : Int) < 60 := by omega
          obtain rfl : i = 60 := by omega
          obtain ⟨Rs, hRs, hRo, hRb⟩ := HX.out
          obtain ⟨w8, hw8⟩ : ∃ w8, w8 = wr.alloc (.cells #[.string ⟨#[97]⟩, .int .i64 9223372036854775807, .int .i64 0, .slice (some ⟨w3.heap.size, 0, none⟩) 2 2] 32) := ⟨_, rfl⟩
          have K8 : Blk w8 wr.heap.size 32 #[.string ⟨#[97]⟩, .int .i64 9223372036854775807, .int .i64 0, .slice (some ⟨w3.heap.size, 0, none⟩) 2 2] := by rw [hw8]; exact Blk.new _ _ _
          have b8 : Below wr.heap.size wr w8 := by rw [hw8]; exact Below.alloc (Below.refl _ _) (Nat.le_refl _) _
          have hlen : Rs.length = 61 := by rw [← List.length_map (f := (·.1)), hRs, List.length_cons, List.length_replicate]
          obtain ⟨gr, hgr, _, _⟩ := orow_cell hRo 0 (by rw [rdsC_len]; omega)
          have hro8 := orow_later hRo b8
          rw [hgr] at hro8
          have FE : Hid (Calls Tryz.prog 8 #[.agg #[.int .i64 l, .int .i64 r, .int .i64 n, .int .i64 o, .int .i64 q, .int .i64 v], .slice (some ⟨wr.heap.size, 0, none⟩) 1 1, .slice ao 61 cap] w8 fun e w' => ∃ ge m ce rest, e = .returned (.tuple #[.slice (some ⟨ge, 0, none⟩) m ce, .int .i64 0]) ∧ Hid (EvsAt w' ge (ev1 :: ev2 :: rest) ∧ m = (ev1 :: ev2 :: rest).length ∧ m ≤ ce ∧ (1 ≤ rest.length ∧ rest.length ≤ 90000) ∧ (∀ v ∈ rest, GoodEv v) ∧ NLPost n.toNat b' ⟨(rdOf rest).toArray⟩ (stF 0 rest)) ∧ Below w8.heap.size w8 w') := Lib.hid (tpRounds HGO.out hk8 HB'.out K8 (HO.out.later b8) hRs gr hgr (RndsAt.of (by rw [hlen]; exact hro8) (by omega) (fun x hx => (hRb x hx).later b8)))
          have K9 := K3.later HB.out
          have L8 := Lib.hid (K9.later b8)
          have B8 := Lib.hid (B3.out.up (HB.out.up b8))
          have dp := HP.out.at4
          have HW8 := Lib.hid hw8
          clear hw8 K8 b8 hlen hgr hro8 hRs hRo hRb HX HO K3 B3
          have d1 := K9.at6
          have hr := Below.refl wr.heap.size wr
          go_wp2_with fail
          rw [← HW8.out]
          refine (FE.out).mono ?_; rintro r9 w9 ⟨ge, m, ce, rest, rfl, HE, b9⟩
          have b9' : Below w8.heap.size w8 w9 := by first | exact b9 | exact (Below.refl _ _).drew.up b9
          have L9 := Lib.hid (L8.out.later b9')
          have B9 := Lib.hid (B8.out.up b9')
          clear b9 b9' FE HW8 dp d1 hr K9 L8 B8 HB HP
          obtain ⟨he, hm, hmc, hl, hge, hNP⟩ := HE.out
          have FP := Lib.hid (pjOfX (w := w9) ge m ce ev1 ev2 rest he hm hmc rfl rfl rfl hl (fun v hv => ⟨(hge v hv).1, (hge v hv).2.1, (hge v hv).2.2.1, (hge v hv).2.2.2.2.1⟩))
          generalize (⟨(rdOf rest).toArray⟩ : ByteArray) = rd at FP hNP
          generalize stF 0 rest = st at FP hNP
          have HNP := Lib.hid hNP
          clear he hm hmc hl hge hNP HE
          have hr := Below.refl w9.heap.size w9
          go_wp2_with fail
          refine (FP.out).mono ?_; rintro r9 w10 ⟨sc, fr, x1, n1, c1, x2, n2, c2, tk, ef, rfl, b10⟩
          have b10' : Below w9.heap.size w9 w10 := by first | exact b10 | exact (Below.refl _ _).drew.up b10
          obtain ⟨w11, hw11⟩ : ∃ w11, w11 = w10.alloc (.cells #[.int .i64 0, .int .i64 sc, .int .i64 fr, .slice x1 n1 c1, .slice x2 n2 c2, .string rd, .string tk, .bool ef, .int .i64 st] 51) := ⟨_, rfl⟩
          obtain ⟨q3, hq3⟩ : ∃ q3, w10.heap.size = q3 := ⟨_, rfl⟩
          have K11 : Blk w11 q3 51 #[.int .i64 0, .int .i64 sc, .int .i64 fr, .slice x1 n1 c1, .slice x2 n2 c2, .string rd, .string tk, .bool ef, .int .i64 st] := by rw [hw11, ← hq3]; exact Blk.new _ _ _
          have b11 : Below w10.heap.size w10 w11 := by rw [hw11]; exact Below.alloc (Below.refl _ _) (Nat.le_refl _) _
          have L11 := L9.out.later (b10'.up b11)
          have B11 := Lib.hid (B9.out.up (b10'.up b11))
          have HW11 := Lib.hid hw11
          have HQ3 := Lib.hid hq3
          clear hw11 hq3 b11 b10 b10' L9 B9 FP hr
          go_upto_region 12 with fail
          rw [← HW11.out, HQ3.out]
          obtain ⟨p1, p2, p3⟩ := HNP.out
          have d1 := L11.at6
          have d2 : ∀ w', Below w11.heap.size w11 w' → w'.cell? ⟨q3, 5, none⟩ = some (.string rd) ∧ w'.cell? ⟨q3, 8, none⟩ = some (.int .i64 st) := fun w' hb => ⟨(K11.later hb).cell 5, (K11.later hb).cell 8⟩
          have hr := Below.refl w11.heap.size w11
          have m1 : ¬ (b'.size : Int) < (rd.size : Int) := by omega
          refine wp_region_later w11.heap.size (by kernel_rfl) (by kernel_rfl) ?_
          have hu : ∀ u : Later w11.heap.size w11, Below w11.heap.size w11 u.world := Later.below
          repeat (go_big_quiet_step ((fail)))
          refine wpQuiet_nil ?_
          intro w12 b12
          have d1' := fun w' (hb : Below w12.heap.size w12 w') => d1 w' (b12.up hb)
          have d2' := fun w' (hb : Below w12.heap.size w12 w') => d2 w' (b12.up hb)
          have B12 := Lib.hid (B11.out.up b12)
          clear d1 d2 hr hu b12 B11 K11 L11
          have hr := Below.refl w12.heap.size w12
          have n1 := (goodB_iff.1 HGO.out).2.2.1.1
          rcases p3 with ⟨z1, rfl, z2⟩ | ⟨z1, rfl, rfl⟩
          · have m2 : n < (b'.size : Int) := by omega
            have m3 : n < (rd.size : Int) := by omega
            go_wp2_with fail
            refine (FV.out _).mono ?_; rintro r9 w13 ⟨rfl, b13⟩
            have b13' : Below w12.heap.size w12 w13 := by first | exact b13 | exact (Below.refl _ _).drew.up b13
            have B13 := Lib.hid (B12.out.up b13')
            clear b13 b13' hr d1' d2'
            go_wp2_with fail
            go_ret
            exact ⟨rfl, B13.out⟩
          · have m2 : ¬ n < (rd.size : Int) := by omega
            go_wp2_with fail
            refine (FV.out _).mono ?_; rintro r9 w13 ⟨rfl, b13⟩
            have b13' : Below w12.heap.size w12 w13 := by first | exact b13 | exact (Below.refl _ _).drew.up b13
            have B13 := Lib.hid (B12.out.up b13')
            clear b13 b13' hr d1' d2'
            go_wp2_with fail
            go_ret
            exact ⟨rfl, B13.out⟩
end Go.Proofs.YtbhgmccaecmpjaaGreat
