/-
  What a call may change: a set of blocks; arrays of which the first cell is known.
  Conditions: none; over any program.
-/
import Derived.Test.YtbhgmccaecmpjaaGreatW02
import Derived.Test.YtbhgmccaecmpjaaGreatW01
namespace Go.Proofs.YtbhgmccaecmpjaaGreat
set_option linter.unusedVariables false
set_option linter.unusedSimpArgs false
open Go.RowKit

/-- The world has changed in blocks of F alone, and in new ones. -/
structure Foot (F : Nat → Prop) (w w' : World) : Prop where
  os : w'.os = w.os
  tape : w'.tape = w.tape
  output : w'.output = w.output
  size : w.heap.size ≤ w'.heap.size
  block : ∀ i, i < w.heap.size → ¬ F i → w'.heap[i]? = w.heap[i]?
section
variable {F G : Nat → Prop} {a w w' : World}
theorem Foot.refl (F : Nat → Prop) (w : World) : Foot F w w := ⟨rfl, rfl, rfl, Nat.le_refl _, fun _ _ _ => rfl⟩
theorem Foot.trans (h : Foot F a w) (k : Foot F w w') : Foot F a w' :=
  ⟨k.os.trans h.os, k.tape.trans h.tape, k.output.trans h.output, Nat.le_trans h.size k.size, fun i hi hn => (k.block i (Nat.lt_of_lt_of_le hi h.size) hn).trans (h.block i hi hn)⟩
/-- .. the second step may change what is new to the first. -/
theorem Foot.then (h : Foot F a w) (k : Foot G w w') (hG : ∀ i, i < a.heap.size → G i → F i) : Foot F a w' :=
  ⟨k.os.trans h.os, k.tape.trans h.tape, k.output.trans h.output, Nat.le_trans h.size k.size, fun i hi hn => (k.block i (Nat.lt_of_lt_of_le hi h.size) (fun g => hn (hG i hi g))).trans (h.block i hi hn)⟩
theorem Foot.mono (h : Foot F w w') (hG : ∀ i, F i → G i) : Foot G w w' := ⟨h.os, h.tape, h.output, h.size, fun i hi hn => h.block i hi (fun f => hn (hG i f))⟩
theorem Foot.later (h : Below w.heap.size w w') : Foot F w w' := ⟨h.os, h.tape, h.output, h.size, fun i hi _ => h.block i hi⟩
theorem Foot.up (h : Foot F a w) (k : Below w.heap.size w w') : Foot F a w' := h.trans (Foot.later k)
theorem Foot.grown {row : Option Nat} (h : w.grownBy w' row) (hr : ∀ g, row = some g → F g) : Foot F w w' := ⟨h.os, h.tape, h.output, h.size, fun i hi hn => h.block i hi (fun e => hn (hr i e.symm))⟩
theorem Foot.set (h : Foot F a w) {p : Addr} (hp : F p.block ∨ a.heap.size ≤ p.block) (u : Value) : Foot F a (w.setCell p u) :=
  ⟨h.os, h.tape, h.output, by simpa [World.setCell] using h.size, fun i hi hn => (Below.heap_setCell w p u i (by
    rintro rfl
    rcases hp with hp | hp
    · exact hn hp
    · omega)).trans (h.block i hi hn)⟩
theorem foot_set (F : Nat → Prop) (h : Foot F a w) (b i : Nat) (hb : F b) (u : Value) : Foot F a (w.setCell ⟨b, i, none⟩ u) := Foot.set h (p := ⟨b, i, none⟩) (.inl hb) u
theorem Foot.below {B : Nat} (h : Foot F w w') (hF : ∀ i, F i → B ≤ i) (hB : B ≤ w.heap.size) : Below B w w' :=
  ⟨h.os, h.tape, h.output, h.size, fun i hi => h.block i (Nat.lt_of_lt_of_le hi hB) (fun f => absurd (hF i f) (by omega))⟩
theorem Foot.upB {B : Nat} (h : Below B a w) (k : Foot F w w') (hF : ∀ i, F i → B ≤ i) (hB : B ≤ a.heap.size) : Below B a w' := h.trans (k.below hF (Nat.le_trans hB h.size))
theorem Blk.foot {g : Nat} {t : TypeId} {cs : Array Value} (h : Blk w g t cs) (k : Foot F w w') (hg : ¬ F g) : Blk w' g t cs := (k.block g h.lt hg).trans h
end

theorem orow_kind {e : TypeId} {k B n : Nat} {w : World} {v : Value} {xs : List Value} (h : ORow e k B w v n xs) {g : Nat} (hg : v.ownBlock = some g) : ∃ cur, w.heap[g]? = some (.cells cur e (0, 0)) := by
  rcases h.2 with ⟨rfl, _⟩ | ⟨g', cap, cur, rfl, _, hgg, _⟩
  · cases hg
  · cases hg; exact ⟨cur, hgg⟩
/-- An array of n cells in block a, its first cell being v. -/
def Arr (w : World) (a : Nat) (t : TypeId) (n : Nat) (v : Value) : Prop := (∃ cs, Blk w a t cs ∧ cs[0]? = some v) ∧ 0 < n ∧ n ≤ 1000000
section
variable {w w' : World} {a n : Nat} {t : TypeId} {v : Value} {F : Nat → Prop}
theorem Arr.lt (h : Arr w a t n v) : a < w.heap.size := by obtain ⟨⟨cs, hb, _⟩, _⟩ := h; exact hb.lt
theorem Arr.foot (h : Arr w a t n v) (k : Foot F w w') (hg : ¬ F a) : Arr w' a t n v := by obtain ⟨⟨cs, hb, h0⟩, r⟩ := h; exact ⟨⟨cs, hb.foot k hg, h0⟩, r⟩
theorem Arr.later (h : Arr w a t n v) (k : Below w.heap.size w w') : Arr w' a t n v := by obtain ⟨⟨cs, hb, h0⟩, r⟩ := h; exact ⟨⟨cs, hb.later k, h0⟩, r⟩
theorem Arr.drew (h : Arr w a t n v) : Arr w.drew a t n v := h
theorem Arr.set (h : Arr w a t n v) (u : Value) : Arr (w.setCell ⟨a, 0, none⟩ u) a t n u := by
  obtain ⟨⟨cs, hb, h0⟩, r⟩ := h
  have h3 : 0 < cs.size := (Array.getElem?_eq_some_iff.1 h0).1
  exact ⟨⟨cs.setIfInBounds 0 u, hb.set_ 0 u, by simp [h3]⟩, r⟩
theorem Arr.far (h : Arr w a t n v) {p : Addr} (hp : a ≠ p.block) (u : Value) : Arr (w.setCell p u) a t n v := by obtain ⟨⟨cs, hb, h0⟩, r⟩ := h; exact ⟨⟨cs, hb.far hp u, h0⟩, r⟩
theorem Arr.at_ (h : Arr w a t n v) : ∀ w', Below w.heap.size w w' → w'.cell? ⟨a, 0, none⟩ = some v ∧ ∀ i, w'.frozen? ⟨a, i, none⟩ = false := fun w' hb => by
  obtain ⟨⟨cs, hk, h0⟩, _⟩ := h
  exact ⟨((hk.later hb).cell 0).trans h0, fun i => (hk.later hb).frozen i⟩
end
/-- A new array of zeros. -/
theorem Arr.made {w : World} {t : TypeId} {z : Value} {B n g : Nat} (h1 : 0 < n) (h2 : n ≤ 1000000) (r : w.ownsRow B t 1 (.slice (some ⟨g, 0, none⟩) n n) n (madeCells #[z] n).toList) : Arr w g t n z := by
  have hx : (madeCells #[z] n).toList[0]? = some z := by
    unfold madeCells
    simp [h1]
  obtain ⟨cs, hb⟩ := orow_kind r rfl
  have h0 := (World.ownsRow.cellAt r 0 (by omega)).trans hx
  exact ⟨⟨cs, hb, (cell_of_row w g 0 cs t (0, 0) hb).symm.trans h0⟩, h1, h2⟩
end Go.Proofs.YtbhgmccaecmpjaaGreat

namespace Go.Proofs.YtbhgmccaecmpjaaGreat
set_option linter.unusedVariables false
set_option linter.unusedSimpArgs false
open Go.RowKit

/-- A ring in block x, its bytes in block a: N places, from f on the bytes l. -/
structure Rng (w : World) (x a N f : Nat) (l : List UInt8) : Prop where
  blk : Blk w x 191 #[.slice (some ⟨a, 0, none⟩) N N, .int .i64 (f : Nat), .int .i64 (l.length : Nat)]
  arr : ∃ cs, Blk w a 5 cs ∧ cs.size = N ∧ ∀ i (h : i < l.length), cs[(f + i) % N]? = some (bval l[i])
  fN : f < N
  lN : l.length ≤ N
  nN : N ≤ 4096
section
variable {w w' : World} {x a N f : Nat} {l : List UInt8} {F : Nat → Prop}
theorem Rng.later (h : Rng w x a N f l) (k : Below w.heap.size w w') : Rng w' x a N f l := ⟨h.blk.later k, by obtain ⟨cs, hb, r⟩ := h.arr; exact ⟨cs, hb.later k, r⟩, h.fN, h.lN, h.nN⟩
theorem Rng.foot (h : Rng w x a N f l) (k : Foot F w w') (hx : ¬ F x) (ha : ¬ F a) : Rng w' x a N f l := ⟨h.blk.foot k hx, by obtain ⟨cs, hb, r⟩ := h.arr; exact ⟨cs, hb.foot k ha, r⟩, h.fN, h.lN, h.nN⟩
end
theorem riLen {w : World} {x a N f : Nat} {l : List UInt8} (h : Rng w x a N f l) : Calls Tryz.prog 97 #[.pointer (some ⟨x, 0, none⟩)] w fun e w' => e = .returned (.int .i64 (l.length : Nat)) ∧ w = w' := by
  have d := h.blk.at3
  have hr := Below.refl w.heap.size w
  go_enter Tryz.func97, Tryz.ntmps97
  go_wp2_with fail
  go_ret
  exact ⟨rfl, rfl⟩
set_option maxRecDepth 100000 in
set_option maxHeartbeats 4000000 in
theorem riRoom {w : World} {x a N f : Nat} {l : List UInt8} (h : Rng w x a N f l) : Calls Tryz.prog 123 #[.pointer (some ⟨x, 0, none⟩)] w fun e w' => e = .returned (.int .i64 ((N - l.length : Nat) : Int)) ∧ Below w.heap.size w w' := by
  have d := h.blk.at3
  have hr := Below.refl w.heap.size w
  have hl := h.lN
  have hn := h.nN
  generalize l.length = m at *
  have s1 : IntKind.i64.wrap ((N : Int) - (m : Int)) = ((N - m : Nat) : Int) := by rw [IntWalk.i64_in _ (by omega)]; omega
  go_enter Tryz.func123, Tryz.ntmps123
  go_wp2_with fail
  refine wp_region_later w.heap.size (by kernel_rfl) (by kernel_rfl) ?_
  have hu : ∀ u : Later w.heap.size w, Below w.heap.size w u.world := Later.below
  repeat (go_big_quiet_step ((fail)))
  refine wpQuiet_nil ?_
  intro w2 b2
  clear hu
  go_wp2_with fail
  go_ret
  exact ⟨rfl, b2⟩
theorem riPlace {w : World} {x a N f i : Nat} {l : List UInt8} (h : Rng w x a N f l) (hi : i ≤ 1000000) : Calls Tryz.prog 151 #[.pointer (some ⟨x, 0, none⟩), .int .i64 (i : Nat)] w fun e w' => e = .returned (.int .i64 (((f + i) % N : Nat) : Int)) ∧ Below w.heap.size w w' := by
  have d := h.blk.at3
  have hr := Below.refl w.heap.size w
  have hf := h.fN
  have hn := h.nN
  have s1 : IntKind.i64.wrap ((f : Int) + (i : Int)) = ((f + i : Nat) : Int) := by rw [IntWalk.i64_in _ (by omega)]; omega
  have hz : ¬ (N : Int) = 0 := by omega
  go_enter Tryz.func151, Tryz.ntmps151
  go_wp2_with fail
  refine wp_region_later w.heap.size (by kernel_rfl) (by kernel_rfl) ?_
  have hu : ∀ u : Later w.heap.size w, Below w.heap.size w u.world := Later.below
  repeat (go_big_quiet_step ((fail)))
  refine wpQuiet_nil ?_
  intro w2 b2
  clear hu
  go_wp2_with fail
  go_ret
  exact ⟨rfl, b2⟩

/-- Where the next byte lies when one is gone. -/
def nxF (N f : Nat) (l : List UInt8) : Nat := if l.length = 1 then 0 else (f + 1) % N
set_option maxRecDepth 100000 in
set_option maxHeartbeats 4000000 in
theorem riDrop1 {w : World} {x a N f : Nat} {c : UInt8} {l : List UInt8} (h : Rng w x a N f (c :: l)) (hxa : x ≠ a) : Calls Tryz.prog 203 #[.pointer (some ⟨x, 0, none⟩), .int .i64 1] w fun e w' => e = .returned (.tuple #[]) ∧ Rng w' x a N (nxF N f (c :: l)) l ∧ Foot (fun i => i = x) w w' := by
  have hr := Below.refl w.heap.size w
  have hf := h.fN
  have hl := h.lN
  have hn := h.nN
  obtain ⟨cs, KA, hcs, hat⟩ := h.arr
  have FP : Hid (Calls Tryz.prog 151 #[.pointer (some ⟨x, 0, none⟩), .int .i64 1] w fun e w' => e = .returned (.int .i64 (((f + 1) % N : Nat) : Int)) ∧ Below w.heap.size w w') := Lib.hid (riPlace (i := 1) h (by decide))
  have K := h.blk
  simp only [List.length_cons] at K hl
  have hm : (f + 1) % N < N := Nat.mod_lt _ (by omega)
  have HAT : Hid (∀ i (hi : i < l.length), cs[(f + 1 + i) % N]? = some (bval l[i])) := Lib.hid fun i hi => by
    have := hat (i + 1) (by simpa using hi)
    rw [show f + 1 + i = f + (i + 1) by omega]
    simpa using this
  have HNX : Hid (nxF N f (c :: l) = if l.length = 0 then 0 else (f + 1) % N) := Lib.hid (by unfold nxF; simp)
  clear hat h
  obtain ⟨g, hg⟩ : ∃ g, (f + 1) % N = g := ⟨_, rfl⟩
  have HG := Lib.hid hg
  rw [hg] at FP hm
  clear hg
  have HXA := Lib.hid hxa
  by_cases h0 : l.length = 0
  · obtain rfl : l = [] := List.length_eq_zero_iff.1 h0
    simp only [List.length_nil] at K
    have s1 : IntKind.i64.wrap (((0 + 1 : Nat) : Int) - 1) = 0 := by decide
    have d := K.at3
    go_enter Tryz.func203, Tryz.ntmps203
    go_wp2_with fail
    refine FP.out.mono ?_; rintro e w1 ⟨rfl, b1⟩
    have K1 := K.later b1
    have A1 := KA.later b1
    have d := K1.at3
    have hr := Below.refl w1.heap.size w1
    go_wp2_with fail
    go_end0
    refine ⟨rfl, ⟨?_, ⟨cs, ((A1.far (p := ⟨x, 1, none⟩) (Ne.symm HXA.out) _).far (p := ⟨x, 2, none⟩) (Ne.symm HXA.out) _).far (p := ⟨x, 1, none⟩) (Ne.symm HXA.out) _, hcs, fun i hi => by cases hi⟩, ?_, Nat.zero_le _, hn⟩, foot_set (fun i => i = x) (foot_set (fun i => i = x) (foot_set (fun i => i = x) (Foot.later b1) x 1 rfl _) x 2 rfl _) x 1 rfl _⟩
    · rw [HNX.out, if_pos h0]
      have := ((K1.set_ 1 (.int .i64 (g : Nat))).set_ 2 (.int .i64 0)).set_ 1 (.int .i64 0)
      simpa using this
    · rw [HNX.out, if_pos h0]; omega
  · have hl0 : ¬ ((l.length : Nat) : Int) = 0 := by omega
    have s1 : IntKind.i64.wrap (((l.length + 1 : Nat) : Int) - 1) = ((l.length : Nat) : Int) := by rw [IntWalk.i64_in _ (by omega)]; omega
    have d := K.at3
    go_enter Tryz.func203, Tryz.ntmps203
    go_wp2_with fail
    refine FP.out.mono ?_; rintro e w1 ⟨rfl, b1⟩
    have K1 := K.later b1
    have A1 := KA.later b1
    have d := K1.at3
    have hr := Below.refl w1.heap.size w1
    go_wp2_with fail
    go_end0
    refine ⟨rfl, ⟨?_, ⟨cs, (A1.far (p := ⟨x, 1, none⟩) (Ne.symm HXA.out) _).far (p := ⟨x, 2, none⟩) (Ne.symm HXA.out) _, hcs, fun i hi => ?_⟩, ?_, by omega, hn⟩, foot_set (fun i => i = x) (foot_set (fun i => i = x) (Foot.later b1) x 1 rfl _) x 2 rfl _⟩
    · rw [HNX.out, if_neg h0, HG.out]
      have := (K1.set_ 1 (.int .i64 (g : Nat))).set_ 2 (.int .i64 (l.length : Nat))
      simpa using this
    · rw [HNX.out, if_neg h0, ← HAT.out i hi, Nat.mod_add_mod]
    · rw [HNX.out, if_neg h0, HG.out]; exact hm

set_option maxRecDepth 100000 in
set_option maxHeartbeats 4000000 in
theorem riPeek1 {w : World} {x a N f : Nat} {c : UInt8} {l : List UInt8} (h : Rng w x a N f (c :: l)) : Calls Tryz.prog 202 #[.pointer (some ⟨x, 0, none⟩), .int .i64 0, .int .i64 1] w fun e w' => e = .returned (.string ⟨#[c]⟩) ∧ Below w.heap.size w w' := by
  have hf := h.fN
  have hn := h.nN
  obtain ⟨cs, KA, hcs, hat⟩ := h.arr
  have FP : Hid (Calls Tryz.prog 151 #[.pointer (some ⟨x, 0, none⟩), .int .i64 0] w fun e w' => e = .returned (.int .i64 (f : Nat)) ∧ Below w.heap.size w w') := Lib.hid (by
    have := riPlace (i := 0) h (by decide)
    rw [Nat.add_zero, Nat.mod_eq_of_lt hf] at this
    exact this)
  have K := h.blk
  have hc := hat 0 (by simp)
  rw [Nat.add_zero, Nat.mod_eq_of_lt hf] at hc
  simp only [List.getElem_cons_zero] at hc
  have s1 : IntKind.i64.wrap ((f : Int) + 1) = ((f + 1 : Nat) : Int) := by rw [IntWalk.i64_in _ (by omega)]; omega
  have e1 : ((f + 1 : Nat) : Int) ≤ (N : Int) := by omega
  have e2 : (0 : Int) ≤ (f : Int) := by omega
  have e3 : (f : Int) ≤ ((f + 1 : Nat) : Int) := by omega
  have d := K.at3
  have hr := Below.refl w.heap.size w
  clear h hat
  go_enter Tryz.func202, Tryz.ntmps202
  go_wp2_with fail
  refine FP.out.mono ?_; rintro e w1 ⟨rfl, b1⟩
  have K1 := K.later b1
  have A1 := KA.later b1
  have d := K1.at3
  have hr := Below.refl w1.heap.size w1
  have da : ∀ w', Below w1.heap.size w1 w' → w'.cell? ⟨a, f, none⟩ = some (.int .u8 (c.toNat : Int)) := fun w' hw => ((A1.later hw).cell f).trans hc
  have hcv : ∀ w', Below w1.heap.size w1 w' → (convert 189 9 (.slice (some ⟨a, f, none⟩) 1 (N - f))).run Tryz.prog w' = .ok (.string ⟨#[c]⟩) w' := fun w' hw => by
    refine run_convert_bytes_back w' 189 9 5 _ _ [c] Tryz.underlying189 Tryz.underlying5 Tryz.underlying9 (fun j hj => ?_)
    obtain rfl : j = 0 := by simpa using hj
    rw [Addr.add_lit, Nat.add_zero]
    exact da w' hw
  have hcv1 := hcv w1 hr
  go_wp2_with fail
  go_ret
  exact ⟨rfl, b1⟩

set_option maxRecDepth 100000 in
set_option maxHeartbeats 4000000 in
theorem riTake1 {w : World} {x a N f : Nat} {c : UInt8} {l : List UInt8} (h : Rng w x a N f (c :: l)) (hxa : x ≠ a) : Calls Tryz.prog 192 #[.pointer (some ⟨x, 0, none⟩), .int .i64 1] w fun e w' => e = .returned (.string ⟨#[c]⟩) ∧ Rng w' x a N (nxF N f (c :: l)) l ∧ Foot (fun i => i = x) w w' := by
  have hl : (1 : Int) ≤ ((c :: l).length : Nat) := by simp only [List.length_cons]; omega
  have d := h.blk.at3
  have hr := Below.refl w.heap.size w
  have FP := Lib.hid (riPeek1 h)
  have HH := Lib.hid h
  have HX := Lib.hid hxa
  generalize ((c :: l).length : Nat) = m at *
  clear h
  go_enter Tryz.func192, Tryz.ntmps192
  go_wp2_with fail
  refine FP.out.mono ?_; rintro e w1 ⟨rfl, b1⟩
  have FD := Lib.hid (riDrop1 (HH.out.later b1) HX.out)
  go_wp2_with fail
  refine FD.out.mono ?_; rintro e w2 ⟨rfl, h2, f2⟩
  go_wp2_with fail
  go_ret
  exact ⟨rfl, h2, (Foot.later b1).trans f2⟩

theorem info_byteT : (Tryz.prog.info? 5).map (fun i => (i.zero, i.size, i.bytes)) = some (some (.int .u8 0), 1, 1) := by kernel_rfl
theorem row_full {e : TypeId} {B n g : Nat} {w : World} {xs : List Value} (h : w.ownsRow B e 1 (.slice (some ⟨g, 0, none⟩) n n) n xs) : B ≤ g ∧ ∃ cs, Blk w g e cs ∧ cs.size = n := by
  rcases h.2 with ⟨hv, _⟩ | ⟨g', cap, cur, hv, hb, hg, _, _, hc, _⟩
  · cases hv
  · cases hv
    exact ⟨hb, cur, hg, by omega⟩
set_option maxRecDepth 100000 in
set_option maxHeartbeats 4000000 in
theorem riNew (w : World) (N : Nat) (hn : 1 ≤ N ∧ N ≤ 4096) : Calls Tryz.prog 76 #[.int .i64 N] w fun e w' => ∃ x a, e = .returned (.pointer (some ⟨x, 0, none⟩)) ∧ Rng w' x a N 0 [] ∧ a < x ∧ w.heap.size ≤ a ∧ Below w.heap.size w w' := by
  have h1 : (1 : Int) ≤ (N : Int) := by omega
  have h2 : (N : Int) ≤ 4096 := by omega
  obtain ⟨i0, hi0, hz0, hz1, hz2⟩ := info_parts info_byteT
  go_enter Tryz.func76, Tryz.ntmps76
  go_wp2_with (at_make; refine wpList_make_full _ rfl _ _ 189 rfl w.heap.size 5 i0 (.int .u8 0) 1 Tryz.underlying189 hi0 hz0 hz1 .i64 .i64 _ _ N rfl rfl ?m1 ?m2 ?m3 ?m4 (Nat.le_refl _) ?m5)
  case m1 => first | rfl | omega
  case m2 => first | rfl | omega
  case m3 => rw [hz2]; omega
  case m4 => unfold maxLen; omega
  case m5 =>
  intro w1 r1 g1
  obtain ⟨-, cs, A1, hcs⟩ := row_full r1
  have b1 : Below w.heap.size w w1 := ⟨g1.os, g1.tape, g1.output, g1.size, fun k hk => g1.block k hk (fun e => by cases e)⟩
  clear r1 g1
  have hw : w.heap.size < w1.heap.size := A1.lt
  go_wp2_with fail
  go_ret
  have ba := Below.alloc (Below.refl w1.heap.size w1) (Nat.le_refl _) (.cells #[.slice (some ⟨w.heap.size, 0, none⟩) N N, .int .i64 0, .int .i64 0] 191)
  exact ⟨w1.heap.size, w.heap.size, rfl, ⟨Blk.new _ _ _, ⟨cs, A1.later ba, hcs, fun i hi => by cases hi⟩, by omega, Nat.zero_le _, hn.2⟩, hw, Nat.le_refl _, b1.up ba⟩
end Go.Proofs.YtbhgmccaecmpjaaGreat
