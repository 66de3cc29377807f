/-
  ring.Put: bytes are put behind all others, in two parts.
  Conditions: the ring's blocks are known.
-/
import Derived.Test.YtbhgmccaecmpjaaGreatW03
import Derived.Lib.BufferWrite
import Derived.Test.YtbhgmccaecmpjaaGreatW01
import Derived.Test.YtbhgmccaecmpjaaGreatW02
import Derived.Deep.RegionHeld3
namespace Go.Proofs.YtbhgmccaecmpjaaGreat
set_option linter.unusedVariables false
set_option linter.unusedSimpArgs false
open Go.RowKit

/-- 'copy(dst, s)', s a string of any length, dst lying in row g from place o on. -/
theorem run_copy_row_str {P : Program} (w : World) (dT sT ty elem : TypeId) (g o dLen dCap : Nat) (s : ByteArray) (cur : Array Value) (t : TypeId) (n : Nat)
    (hu : P.underlying dT = some (.slice elem)) (hs : (P.info? elem).map (·.size) = some 1) (hg : w.heap[g]? = some (.cells cur t (0, 0))) (hn : n = min s.size dLen) (hfit : o + n ≤ cur.size) :
    (Builtin.copy_ #[dT, sT] ty #[.slice (some ⟨g, o, none⟩) dLen dCap, .string s]).run P w =
      .ok (goInt n) (w.setRow g (cur.toList.take o ++ (s.data.toList.take n).map bval ++ cur.toList.drop (o + n)).toArray) := by
  have hsl : s.data.toList.length = s.size := rfl
  have hlen : ((s.data.toList.take n).map bval).length = n := by rw [List.length_map, List.length_take]; omega
  have hst := run_storeCells_at P g o t ((s.data.toList.take n).map bval) 0 cur w hg (by rw [hlen]; simpa using hfit) (fun v hv => by
    obtain ⟨b, _, rfl⟩ := List.mem_map.1 hv
    rfl)
  have hmin : Nat.min s.size dLen = n := hn.symm
  have htk : List.map (fun b : UInt8 => Value.int IntKind.u8 (b.toNat : Int)) (List.take n s.data.toList) = (s.data.toList.take n).map bval := rfl
  rw [hlen] at hst
  simp only [Nat.add_zero] at hst
  cases hq : P.info? elem with
  | none => simp [hq] at hs
  | some i =>
    simp [Builtin.copy_, run_underlying hu, Builtin.lenOf, Builtin.firstCells, sizeOf, typeInfo, hq, hmin]
    rw [← List.map_take, htk, hst]
    simp [Result.andThen]
theorem blk_setRow {w : World} {g : Nat} {t : TypeId} {cs : Array Value} (h : Blk w g t cs) (cs' : Array Value) : Blk (w.setRow g cs') g t cs' := setRow_heap w g cs cs' t _ h
theorem foot_setRow {F : Nat → Prop} {a w : World} (h : Foot F a w) (g : Nat) (hg : F g) (cs : Array Value) : Foot F a (w.setRow g cs) :=
  ⟨h.os, h.tape, h.output, by simpa [World.setRow] using h.size, fun i hi hn => (setRow_other w g i cs (fun e => hn (e ▸ hg))).trans (h.block i hi hn)⟩
theorem splice_at {cur : List Value} {o n : Nat} {vs : List Value} (hl : vs.length = n) (hf : o + n ≤ cur.length) (j : Nat) : (cur.take o ++ vs ++ cur.drop (o + n))[j]? = if j < o then cur[j]? else if j < o + n then vs[j - o]? else cur[j]? := by
  by_cases h1 : j < o
  · rw [if_pos h1, List.append_assoc, List.getElem?_append_left (by simp; omega), List.getElem?_take_of_lt h1]
  · rw [if_neg h1]
    by_cases h2 : j < o + n
    · rw [if_pos h2, List.getElem?_append_left (by simp; omega), List.getElem?_append_right (by simp; omega)]
      congr 1
      simp; omega
    · rw [if_neg h2, List.getElem?_append_right (by simp; omega), List.getElem?_drop]
      congr 1
      simp; omega
/-- What a ring's row holds behind two parts that are laid in. -/
theorem ring_two {cs : Array Value} {N f n : Nat} {l : List UInt8} {s : List UInt8} (hN : cs.size = N) (hf : f < N) (hl : l.length + n ≤ N) (hs : s.length = n) (hat : ∀ i (h : i < l.length), cs[(f + i) % N]? = some (bval l[i])) (at_ k : Nat) (ha : at_ = (f + l.length) % N) (hk : k = min n (N - at_)) :
    ∀ c1 c2 : Array Value, c1 = (cs.toList.take at_ ++ (s.take k).map bval ++ cs.toList.drop (at_ + k)).toArray → c2 = (c1.toList.take 0 ++ (s.drop k).map bval ++ c1.toList.drop (0 + (n - k))).toArray →
    c2.size = N ∧ ∀ i (h : i < (l ++ s).length), c2[(f + i) % N]? = some (bval (l ++ s)[i]) := by
  intro c1 c2 h1 h2
  have hN0 : 0 < N := by omega
  have haN : at_ < N := by rw [ha]; exact Nat.mod_lt _ hN0
  have hlen1 : ((s.take k).map bval).length = k := by rw [List.length_map, List.length_take]; omega
  have hlen2 : ((s.drop k).map bval).length = n - k := by rw [List.length_map, List.length_drop]; omega
  have hcl : cs.toList.length = N := by simpa using hN
  have e1 : ∀ j, c1[j]? = if j < at_ then cs[j]? else if j < at_ + k then ((s.take k).map bval)[j - at_]? else cs[j]? := fun j => by
    have := splice_at (cur := cs.toList) hlen1 (show at_ + k ≤ cs.toList.length by omega) j
    rw [h1]
    simpa using this
  have hc1 : c1.size = N := by
    rw [h1]
    simp only [List.size_toArray, List.length_append, List.length_take, List.length_drop, hlen1]
    omega
  have hc1l : c1.toList.length = N := by simpa using hc1
  have e2 : ∀ j, c2[j]? = if j < 0 then c1[j]? else if j < 0 + (n - k) then ((s.drop k).map bval)[j - 0]? else c1[j]? := fun j => by
    have := splice_at (cur := c1.toList) hlen2 (show 0 + (n - k) ≤ c1.toList.length by omega) j
    rw [h2]
    simpa using this
  refine ⟨?_, fun i hi => ?_⟩
  · rw [h2]
    simp only [List.size_toArray, List.length_append, List.length_take, List.length_drop, hlen2, hc1l]
    omega
  have hil : i < l.length + n := by simpa [hs] using hi
  have hmod : ∀ x, x < 2 * N → (x < N ∧ x % N = x) ∨ (N ≤ x ∧ x % N + N = x) := fun x hx => by
    by_cases h : x < N
    · exact .inl ⟨h, Nat.mod_eq_of_lt h⟩
    · refine .inr ⟨by omega, ?_⟩
      rw [Nat.mod_eq_sub_mod (by omega), Nat.mod_eq_of_lt (by omega)]; omega
  have hA := hmod (f + l.length) (by omega)
  have hP := hmod (f + i) (by omega)
  rw [← ha] at hA
  have HH : ∀ h3 : i < l.length, cs[(f + i) % N]? = some (bval l[i]) := fun h3 => hat i h3
  generalize (f + i) % N = p at *
  clear hmod hat h1 h2 ha
  rw [e2, if_neg (by omega)]
  by_cases h3 : i < l.length
  · rw [List.getElem_append_left h3, if_neg (by omega), e1]
    split
    · exact HH h3
    · rw [if_neg (by omega)]
      exact HH h3
  · rw [List.getElem_append_right (by omega)]
    obtain ⟨q, hq⟩ : ∃ q, i = l.length + q := ⟨i - l.length, by omega⟩
    have hqs : q < s.length := by omega
    have eq : ∀ h, s[i - l.length]'h = s[q] := fun h => by congr 1; omega
    rw [eq]
    by_cases h4 : q < k
    · rw [if_neg (by omega), e1, if_neg (by omega), if_pos (by omega)]
      have e5 : p - at_ = q := by omega
      rw [e5, List.getElem?_map, List.getElem?_take_of_lt h4, List.getElem?_eq_getElem hqs]; rfl
    · rw [if_pos (by omega)]
      have e5 : k + (p - 0) = q := by omega
      rw [List.getElem?_map, List.getElem?_drop, e5, List.getElem?_eq_getElem hqs]; rfl

theorem splice_size {cur : List Value} {o n : Nat} {vs : List Value} (hl : vs.length = n) (hf : o + n ≤ cur.length) : (cur.take o ++ vs ++ cur.drop (o + n)).toArray.size = cur.length := by
  simp only [List.size_toArray, List.length_append, List.length_take, List.length_drop, hl]
  omega
theorem take2_len {s : ByteArray} {n k : Nat} (h : k ≤ n) (hs : n ≤ s.size) : (((s.data.toList.take n).take k).map bval).length = k := by
  have : s.data.toList.length = s.size := rfl
  rw [List.length_map, List.length_take, List.length_take]; omega
theorem ext_take (s : ByteArray) (n : Nat) : (s.extract 0 n).data.toList = s.data.toList.take n := by
  simp
theorem ext_mid (s : ByteArray) (k n : Nat) : (s.extract k n).data.toList = (s.data.toList.take n).drop k := by
  rw [List.drop_take]; simp
set_option maxRecDepth 100000 in
set_option maxHeartbeats 8000000 in
theorem riPut {w : World} {x a N f : Nat} {l : List UInt8} (h : Rng w x a N f l) (hxa : x ≠ a) (s : ByteArray) (hs : s.size ≤ 1000000) : Calls Tryz.prog 126 #[.pointer (some ⟨x, 0, none⟩), .string s] w fun e w' => e = .returned (.int .i64 (min s.size (N - l.length) : Nat)) ∧ Rng w' x a N f (l ++ s.data.toList.take (min s.size (N - l.length))) ∧ Foot (fun i => i = x ∨ i = a) w w' := by
  obtain ⟨n, hn⟩ : ∃ n, min s.size (N - l.length) = n := ⟨_, rfl⟩
  obtain ⟨m, hm⟩ : ∃ m, l.length = m := ⟨_, rfl⟩
  obtain ⟨p, hp⟩ : ∃ p, (f + m) % N = p := ⟨_, rfl⟩
  have hf := h.fN
  have hl := h.lN
  have hN := h.nN
  have FP : Hid (∀ w', Below w.heap.size w w' → Calls Tryz.prog 151 #[.pointer (some ⟨x, 0, none⟩), .int .i64 m] w' fun e w'' => e = .returned (.int .i64 (p : Nat)) ∧ Below w'.heap.size w' w'') := Lib.hid fun w' hb => hp ▸ riPlace (i := m) (h.later hb) (by omega)
  have HH := Lib.hid h
  have K := h.blk
  obtain ⟨cs, KA, hcs, hat⟩ := h.arr
  have HAT := Lib.hid hat
  have HM := Lib.hid hm
  have HP := Lib.hid hp
  rw [hn]
  rw [hm] at hl hn K
  have HNN := Lib.hid hn
  have hns : n ≤ s.size := by omega
  have hnN : n ≤ N - m := by omega
  have hpN : p < N := by rw [← hp]; exact Nat.mod_lt _ (by omega)
  obtain ⟨k, hk⟩ : ∃ k, min n (N - p) = k := ⟨_, rfl⟩
  have hkn : k ≤ n := by omega
  have HKK := Lib.hid hk
  have hkp : p + k ≤ N := by omega
  have s3 : IntKind.i64.wrap ((m : Int) + (n : Int)) = ((m + n : Nat) : Int) := by rw [IntWalk.i64_in _ (by omega)]; omega
  have e1 : (p : Int) ≤ (N : Int) := by omega
  have e2 : (n : Int) ≤ (s.size : Int) := by omega
  have hcase : (IntKind.i64.wrap ((N : Int) - (m : Int)) = (n : Int) ∧ (n : Int) < (s.size : Int)) ∨ (IntKind.i64.wrap ((N : Int) - (m : Int)) = (N : Int) - (m : Int) ∧ (s.size : Int) = (n : Int) ∧ ¬ (N : Int) - (m : Int) < (n : Int)) := by
    have := IntWalk.i64_in ((N : Int) - (m : Int)) (by omega)
    omega
  have e3 : (k : Int) ≤ (n : Int) := by omega
  have d := K.at3
  have hr := Below.refl w.heap.size w
  have HXA := Lib.hid hxa
  have HCS := Lib.hid hcs
  clear h hat hm hp hn hk hcs hxa
  rcases hcase with ⟨c1, c2⟩ | ⟨c1, c2, c3⟩
  all_goals (
    go_enter Tryz.func126, Tryz.ntmps126
    go_wp2_with fail
    refine wp_region_later w.heap.size (by kernel_rfl) (by kernel_rfl) ?_
    have hu : ∀ u : Later w.heap.size w, Below w.heap.size w u.world := Later.below
    repeat (go_big_quiet_step ((fail)))
    refine wpQuiet_nil ?_
    intro w1 b1
    have K1 := K.later b1
    clear d hr hu
    have d := K1.at3
    have hr := Below.refl w1.heap.size w1
    have FP1 := Lib.hid (FP.out w1 b1)
    go_wp2_with fail
    refine FP1.out.mono ?_; rintro e w2 ⟨rfl, b2⟩
    have K2 := K1.later b2
    have A2 := KA.later (b1.up b2)
    have F2 : Foot (fun i => i = x ∨ i = a) w w2 := Foot.later (b1.up b2)
    clear d hr FP1 K1
    have d := K2.at3
    have hr := Below.refl w2.heap.size w2
    go_upto_region 5 with fail
    refine wp_region_later_tail w2.heap.size 9 (by kernel_rfl) (by kernel_rfl) ?_
    simp only [List.take_succ_cons, List.take_zero, List.drop_succ_cons, List.drop_zero]
    have hu : ∀ u : Later w2.heap.size w2, Below w2.heap.size w2 u.world := Later.below
    repeat (go_big_quiet_step ((fail)))
    refine wpQuiet_nil ?_
    intro w3 b3
    have K3 := K2.later b3
    have A3 := A2.later b3
    have F3 := F2.up b3
    have hcsN := HCS.out
    have hpk : k = min (s.extract 0 n).size (N - p) := by rw [← HKK.out]; simp; omega
    have CP := run_copy_row_str (P := Tryz.prog) w3 189 9 3 5 a p (N - p) (N - p) (s.extract 0 n) cs 5 k Tryz.underlying189 (by kernel_rfl) A3 hpk (by omega)
    rw [ext_take] at CP
    obtain ⟨c1, hc1⟩ : ∃ c1, c1 = (cs.toList.take p ++ ((s.data.toList.take n).take k).map bval ++ cs.toList.drop (p + k)).toArray := ⟨_, rfl⟩
    rw [← hc1] at CP
    have A4 : Blk (w3.setRow a c1) a 5 c1 := blk_setRow A3 c1
    have K4 : Blk (w3.setRow a c1) x 191 #[.slice (some ⟨a, 0, none⟩) N N, .int .i64 f, .int .i64 m] := (setRow_other w3 a x c1 HXA.out).trans K3
    have F4 := foot_setRow F3 a (.inr rfl) c1
    have HC1 := Lib.hid hc1
    obtain ⟨w4, hw4⟩ : ∃ w4, w4 = w3.setRow a c1 := ⟨_, rfl⟩
    rw [← hw4] at A4 K4 F4
    have HW4 := Lib.hid hw4
    clear d hr hu hpk hc1 hw4
    have hr := Below.refl w3.heap.size w3
    go_upto_region 6 with fail
    rw [← HW4.out]
    clear hr
    have d := K4.at3
    have hr := Below.refl w4.heap.size w4
    refine wp_region_later_tail w4.heap.size 8 (by kernel_rfl) (by kernel_rfl) ?_
    simp only [List.take_succ_cons, List.take_zero, List.drop_succ_cons, List.drop_zero]
    have hu : ∀ u : Later w4.heap.size w4, Below w4.heap.size w4 u.world := Later.below
    repeat (go_big_quiet_step ((fail)))
    refine wpQuiet_nil ?_
    intro w5 b5
    have K5 := K4.later b5
    have A5 := A4.later b5
    have F5 := F4.up b5
    obtain ⟨q, hq⟩ : ∃ q, n - k = q := ⟨_, rfl⟩
    have hcl : cs.toList.length = N := by simpa using hcsN
    have hc1s : c1.size = N := by
      rw [HC1.out, splice_size (n := k) (take2_len hkn hns) (by rw [hcl]; omega), hcl]
    have hpk2 : q = min (s.extract k n).size N := by simp; omega
    have CP2 := run_copy_row_str (P := Tryz.prog) w5 189 9 3 5 a 0 N N (s.extract k n) c1 5 q Tryz.underlying189 (by kernel_rfl) A5 hpk2 (by omega)
    have hlq : ((s.data.toList.take n).drop k).length ≤ q := by
      have : s.data.toList.length = s.size := rfl
      rw [List.length_drop, List.length_take]; omega
    rw [ext_mid, List.take_of_length_le hlq] at CP2
    obtain ⟨c2', hc2⟩ : ∃ c2', c2' = (c1.toList.take 0 ++ ((s.data.toList.take n).drop k).map bval ++ c1.toList.drop (0 + q)).toArray := ⟨_, rfl⟩
    rw [← hc2] at CP2
    have A6 : Blk (w5.setRow a c2') a 5 c2' := blk_setRow A5 c2'
    have K6 : Blk (w5.setRow a c2') x 191 #[.slice (some ⟨a, 0, none⟩) N N, .int .i64 f, .int .i64 m] := (setRow_other w5 a x c2' HXA.out).trans K5
    have F6 := foot_setRow F5 a (.inr rfl) c2'
    have RT := ring_two (cs := cs) (N := N) (f := f) (n := n) (l := l) (s := s.data.toList.take n) hcsN hf (by rw [HM.out]; omega) (by have : s.data.toList.length = s.size := rfl; rw [List.length_take]; omega) HAT.out p k (by rw [HM.out, HP.out]) HKK.out.symm c1 c2' HC1.out (by rw [hq]; exact hc2)
    have RR := Lib.hid RT
    obtain ⟨w6, hw6⟩ : ∃ w6, w6 = w5.setRow a c2' := ⟨_, rfl⟩
    rw [← hw6] at A6 K6 F6
    have HW6 := Lib.hid hw6
    have hr5 := Below.refl w5.heap.size w5
    have HQ := Lib.hid hq
    clear RT hc2 hq hlq hpk2 hc1s hcl hcsN d hr hu CP hw6
    go_upto_region 7 with fail
    rw [← HW6.out]
    clear hr5
    have d := K6.at3
    have hr := Below.refl w6.heap.size w6
    go_wp2_with fail
    go_ret
    refine ⟨rfl, ⟨?_, ⟨c2', A6.far (p := ⟨x, 2, none⟩) (Ne.symm HXA.out) _, RR.out.1, RR.out.2⟩, hf, ?_, hN⟩, foot_set _ F6 x 2 (.inl rfl) _⟩
    · have := K6.set_ 2 (.int .i64 ((m + n : Nat) : Int))
      have e9 : (l ++ s.data.toList.take n).length = m + n := by
        have : s.data.toList.length = s.size := rfl
        rw [List.length_append, List.length_take, HM.out]; omega
      rw [e9]
      simpa using this
    · have : s.data.toList.length = s.size := rfl
      rw [List.length_append, List.length_take, HM.out]; omega)
end Go.Proofs.YtbhgmccaecmpjaaGreat

namespace Go.Proofs.YtbhgmccaecmpjaaGreat
set_option linter.unusedVariables false
set_option linter.unusedSimpArgs false
open Go.RowKit

/-- Block b is the table t. -/
def TabAt (w : World) (b : Nat) (t : TabT) : Prop := (∃ cs, Blk w b 284 cs ∧ cs[0]? = some (.int .i64 t.n) ∧ cs[1]? = some (.int .u64 t.runs) ∧ ∀ c, c < 256 → cs[2 + c]? = some (.int .u64 (t.has c))) ∧ t.ok
section
variable {w w' : World} {b : Nat} {t : TabT} {F : Nat → Prop}
theorem TabAt.lt (h : TabAt w b t) : b < w.heap.size := by obtain ⟨⟨cs, hb, _⟩, _⟩ := h; exact hb.lt
theorem TabAt.later (h : TabAt w b t) (k : Below w.heap.size w w') : TabAt w' b t := by obtain ⟨⟨cs, hb, r⟩, ho⟩ := h; exact ⟨⟨cs, hb.later k, r⟩, ho⟩
theorem TabAt.foot (h : TabAt w b t) (k : Foot F w w') (hb : ¬ F b) : TabAt w' b t := by obtain ⟨⟨cs, hk, r⟩, ho⟩ := h; exact ⟨⟨cs, hk.foot k hb, r⟩, ho⟩
theorem TabAt.at_ (h : TabAt w b t) : ∀ w', Below w.heap.size w w' → w'.cell? ⟨b, 0, none⟩ = some (.int .i64 t.n) ∧ w'.cell? ⟨b, 1, none⟩ = some (.int .u64 t.runs) ∧ (∀ c, c < 256 → w'.cell? ⟨b, 2 + c, none⟩ = some (.int .u64 (t.has c))) ∧ ∀ i, w'.frozen? ⟨b, i, none⟩ = false := fun w' hb => by
  obtain ⟨⟨cs, hk, h0, h1, h2⟩, _⟩ := h
  exact ⟨((hk.later hb).cell 0).trans h0, ((hk.later hb).cell 1).trans h1, fun c hc => ((hk.later hb).cell _).trans (h2 c hc), fun i => (hk.later hb).frozen i⟩
end
set_option maxRecDepth 100000 in
set_option maxHeartbeats 4000000 in
theorem taClose {w : World} {b : Nat} {t : TabT} (h : TabAt w b t) (x : Nat) (hx : x < 2 ^ 64) : Calls Tryz.prog 201 #[.pointer (some ⟨b, 0, none⟩), .int .u64 x] w fun e w' => e = .returned (.int .u64 (cloT t.n t.runs x : Nat)) ∧ w = w' := by
  have d := h.at_
  have ho := h.2
  have hn := ho.n
  have hru := ho.runs
  have hr := Below.refl w.heap.size w
  have m1 := mask64 t.n x hn.2 hx
  have hx0 : x % 2 ^ (t.n + 1) < 2 ^ (t.n + 1) := Nat.mod_lt _ (Nat.two_pow_pos _)
  have hp : 2 ^ (t.n + 1) ≤ 2 ^ 61 := Nat.pow_le_pow_right (by decide) (by omega)
  have hp2 : 2 ^ t.n ≤ 2 ^ 61 := Nat.pow_le_pow_right (by decide) (by omega)
  unfold cloT
  have d0 := (d w hr).1
  have d1 := (d w hr).2.1
  have HRU := Lib.hid hru
  generalize t.runs = ru at *
  generalize t.n = n at *
  clear d h
  generalize x % 2 ^ (n + 1) = x0 at *
  go_enter Tryz.func201, Tryz.ntmps201
  go_wp2_with fail
  go_loop [1] (fun v => ∃ y : Nat, v = .int .u64 (y : Nat) ∧ y < 2 ^ (n + 1) ∧ Hid (cloG ru (2 ^ (n + 1) - x0) x0 = cloG ru (2 ^ (n + 1) - y) y)) (fun v => 2 ^ (n + 1) - (intOf v).toNat)
  case atStart => exact ⟨x0, rfl, hx0, Lib.hid rfl⟩
  case round =>
    clear m1 hx0
    obtain ⟨y, rfl, hy, hE⟩ := hrel
    have e1 := band y ru (by omega) (by omega)
    have hlt : y &&& ru < 2 ^ n := and_lt hru
    have e2 : IntKind.u64.wrap (((y &&& ru : Nat) : Int) * 2 ^ 1) = (((y &&& ru) <<< 1 : Nat) : Int) := by
      rw [Nat.shiftLeft_eq]; rw [wrap64' _ (by omega) (by omega)]; push_cast; omega
    have hlt2 : (y &&& ru) <<< 1 < 2 ^ (n + 1) := shl_lt hlt
    have e3 := bor y ((y &&& ru) <<< 1) (by omega) (by omega)
    have e5 : (((y &&& ru) <<< 1 : Nat) : Int) = ((y &&& ru : Nat) : Int) * 2 := by rw [Nat.shiftLeft_eq]; push_cast; omega
    have e6 : IntKind.u64.wrap (((y &&& ru : Nat) : Int) * 2) = ((y &&& ru : Nat) : Int) * 2 := wrap64' _ (by omega) (by omega)
    rw [e5] at e3
    obtain ⟨z, hz⟩ : ∃ z, stpT ru y = z := ⟨_, rfl⟩
    have e4 : y ||| ((y &&& ru) <<< 1) = z := hz
    rw [e4] at e3
    have HZ := Lib.hid hz
    have hz1 : y ≤ z := hz ▸ stpT_le ru y
    have hz2 : z < 2 ^ (n + 1) := hz ▸ stpT_lt hru hy
    clear e2 e5 hz e4 hlt2
    by_cases hc : z = y
    · have hE2 := clo_end (ru := ru) hy (HZ.out.trans hc)
      have HC := Lib.hid hc
      subst hc
      go_wp2_with fail
      go_ret
      exact ⟨by rw [hE.out, hE2]; rfl, rfl⟩
    · have hb : ((z : Int) == (y : Int)) = false := ne_b (by omega)
      have hE2 := clo_round hru hy (fun e => hc (HZ.out ▸ e))
      rw [HZ.out] at hE2
      have HE2 := Lib.hid hE2
      clear hE2
      go_wp2_with fail
      go_round
      case rel => exact ⟨z, rfl, hz2, Lib.hid (hE.out.trans HE2.out)⟩
      case measure => simp [intOf]; omega

theorem taStartI {w : World} {b : Nat} {t : TabT} (h : TabAt w b t) : Calls Tryz.prog 190 #[.pointer (some ⟨b, 0, none⟩)] w fun e w' => e = .returned (.int .u64 (startT t : Nat)) ∧ w = w' := by
  have FC : Hid (Calls Tryz.prog 201 #[.pointer (some ⟨b, 0, none⟩), .int .u64 1] w fun e w' => e = .returned (.int .u64 (startT t : Nat)) ∧ w = w') := Lib.hid (taClose h 1 (by decide))
  go_enter Tryz.func190, Tryz.ntmps190
  go_wp2_with fail
  refine FC.out.mono ?_; rintro e w1 ⟨rfl, rfl⟩
  go_wp2_with fail
  go_ret
  exact ⟨rfl, rfl⟩
theorem taStart {w : World} {b : Nat} {t : TabT} (h : TabAt w b t) : Calls Tryz.prog 175 #[.pointer (some ⟨b, 0, none⟩)] w fun e w' => e = .returned (.int .u64 (startT t : Nat)) ∧ w = w' := by
  have FC := Lib.hid (taStartI h)
  go_enter Tryz.func175, Tryz.ntmps175
  go_wp2_with fail
  refine FC.out.mono ?_; rintro e w1 ⟨rfl, rfl⟩
  go_wp2_with fail
  go_ret
  exact ⟨rfl, rfl⟩
set_option maxRecDepth 100000 in
set_option maxHeartbeats 4000000 in
theorem taStep {w : World} {b : Nat} {t : TabT} (h : TabAt w b t) (x c : Nat) (hx : x < 2 ^ 64) (hc : c < 256) : Calls Tryz.prog 220 #[.pointer (some ⟨b, 0, none⟩), .int .u64 x, .int .u8 c] w fun e w' => e = .returned (.int .u64 (stepT t x c : Nat)) ∧ Below w.heap.size w w' := by
  have d := h.at_
  have ho := h.2
  have hn := ho.n
  have hr := Below.refl w.heap.size w
  have FC := Lib.hid (taClose h x hx)
  have hy := cloT_lt ho.runs x
  have hp : 2 ^ (t.n + 1) ≤ 2 ^ 61 := Nat.pow_le_pow_right (by decide) (by omega)
  have hp2 : 2 ^ t.n ≤ 2 ^ 60 := Nat.pow_le_pow_right (by decide) (by omega)
  have h1 := ho.runs
  have h2 := ho.has c
  obtain ⟨y, hyy⟩ : ∃ y, cloT t.n t.runs x = y := ⟨_, rfl⟩
  have hst : stepT t x c = cloT t.n t.runs (y &&& t.runs ||| ((y &&& t.has c) <<< 1)) := by unfold stepT; rw [hyy]
  rw [hst]
  rw [hyy] at FC hy
  clear hst hyy
  have l1 : y &&& t.runs < 2 ^ t.n := and_lt h1
  have l2 : y &&& t.has c < 2 ^ t.n := and_lt h2
  have l3 : (y &&& t.has c) <<< 1 < 2 ^ (t.n + 1) := shl_lt l2
  have e1 := band y t.runs (by omega) (by omega)
  have e2 := band y (t.has c) (by omega) (by omega)
  have e5 : (((y &&& t.has c) <<< 1 : Nat) : Int) = ((y &&& t.has c : Nat) : Int) * 2 := by rw [Nat.shiftLeft_eq]; push_cast; omega
  have e6 : IntKind.u64.wrap (((y &&& t.has c : Nat) : Int) * 2) = ((y &&& t.has c : Nat) : Int) * 2 := wrap64' _ (by omega) (by omega)
  have e3 := bor (y &&& t.runs) ((y &&& t.has c) <<< 1) (by omega) (by omega)
  rw [e5] at e3
  have l4 : y &&& t.runs ||| ((y &&& t.has c) <<< 1) < 2 ^ (t.n + 1) := or_lt (by rw [Nat.pow_succ]; omega) l3
  have FC2 : Hid (∀ w', Below w.heap.size w w' → Calls Tryz.prog 201 #[.pointer (some ⟨b, 0, none⟩), .int .u64 ((y &&& t.runs ||| ((y &&& t.has c) <<< 1) : Nat) : Int)] w' fun e w'' => e = .returned (.int .u64 (cloT t.n t.runs (y &&& t.runs ||| ((y &&& t.has c) <<< 1)) : Nat)) ∧ w' = w'') := Lib.hid fun w' hb => taClose (h.later hb) _ (by omega)
  have hc1 : (c : Int) < 256 := by omega
  have d' : ∀ w', Below w.heap.size w w' → w'.cell? ⟨b, 0, none⟩ = some (.int .i64 t.n) ∧ w'.cell? ⟨b, 1, none⟩ = some (.int .u64 t.runs) ∧ w'.cell? ⟨b, 2 + c, none⟩ = some (.int .u64 (t.has c)) ∧ ∀ i, w'.frozen? ⟨b, i, none⟩ = false := fun w' hb => ⟨(d w' hb).1, (d w' hb).2.1, (d w' hb).2.2.1 c hc, (d w' hb).2.2.2⟩
  generalize t.runs = ru at *
  generalize t.has c = hac at *
  generalize hz : (y &&& ru ||| ((y &&& hac) <<< 1)) = z at *
  clear d h h2 l1 l2 l3 l4 hz e5
  go_enter Tryz.func220, Tryz.ntmps220
  go_wp2_with fail
  refine FC.out.mono ?_; rintro e w1 ⟨rfl, rfl⟩
  go_upto_region 2 with fail
  refine wp_region_later w.heap.size (by kernel_rfl) (by kernel_rfl) ?_
  have hu : ∀ u : Later w.heap.size w, Below w.heap.size w u.world := Later.below
  repeat (go_big_quiet_step ((first | (go_at_call 201; exact later_same (FC2.out _ (hu _))))))
  refine wpQuiet_nil ?_
  intro w2 b2
  go_wp2_with fail
  go_ret
  exact ⟨rfl, b2⟩

theorem taSeek {w : World} {b : Nat} {t : TabT} (h : TabAt w b t) (x c : Nat) (hx : x < 2 ^ 64) (hc : c < 256) : Calls Tryz.prog 213 #[.pointer (some ⟨b, 0, none⟩), .int .u64 x, .int .u8 c] w fun e w' => e = .returned (.int .u64 (seekT t x c : Nat)) ∧ Below w.heap.size w w' := by
  have FC := Lib.hid (taStep h x c hx hc)
  have FS : Hid (∀ w', Below w.heap.size w w' → Calls Tryz.prog 190 #[.pointer (some ⟨b, 0, none⟩)] w' fun e w'' => e = .returned (.int .u64 (startT t : Nat)) ∧ w' = w'') := Lib.hid fun w' hb => taStartI (h.later hb)
  have hp : 2 ^ (t.n + 1) ≤ 2 ^ 61 := Nat.pow_le_pow_right (by decide) (by have := h.2.n; omega)
  have l1 : stepT t x c < 2 ^ (t.n + 1) := cloT_lt h.2.runs _
  have l2 : startT t < 2 ^ (t.n + 1) := cloT_lt h.2.runs 1
  have e3 := bor (stepT t x c) (startT t) (by omega) (by omega)
  have e4 : stepT t x c ||| startT t = seekT t x c := rfl
  rw [e4] at e3
  generalize stepT t x c = a at *
  generalize startT t = s at *
  generalize seekT t x c = z at *
  clear e4 h l1 l2
  go_enter Tryz.func213, Tryz.ntmps213
  go_wp2_with fail
  refine FC.out.mono ?_; rintro e w1 ⟨rfl, b1⟩
  have FS1 := Lib.hid (FS.out w1 b1)
  go_wp2_with fail
  refine FS1.out.mono ?_; rintro e w2 ⟨rfl, rfl⟩
  go_wp2_with fail
  go_ret
  exact ⟨rfl, b1⟩
set_option maxRecDepth 100000 in
set_option maxHeartbeats 4000000 in
theorem taDone {w : World} {b : Nat} {t : TabT} (h : TabAt w b t) (x : Nat) (hx : x < 2 ^ 64) : Calls Tryz.prog 214 #[.pointer (some ⟨b, 0, none⟩), .int .u64 x] w fun e w' => e = .returned (.bool (doneT t x)) ∧ Below w.heap.size w w' := by
  have d := h.at_
  have ho := h.2
  have hn := ho.n
  have hr := Below.refl w.heap.size w
  have FC : Hid (∀ w', Below w.heap.size w w' → Calls Tryz.prog 201 #[.pointer (some ⟨b, 0, none⟩), .int .u64 x] w' fun e w'' => e = .returned (.int .u64 (cloT t.n t.runs x : Nat)) ∧ w' = w'') := Lib.hid fun w' hb => taClose (h.later hb) x hx
  have hp : 2 ^ (t.n + 1) ≤ 2 ^ 61 := Nat.pow_le_pow_right (by decide) (by omega)
  have hy := cloT_lt ho.runs x
  have d' : ∀ w', Below w.heap.size w w' → w'.cell? ⟨b, 0, none⟩ = some (.int .i64 t.n) := fun w' hb => (d w' hb).1
  unfold doneT
  generalize cloT t.n t.runs x = y at *
  generalize t.n = n at *
  have hz : y >>> n ≤ y := by rw [Nat.shiftRight_eq_div_pow]; exact Nat.div_le_self _ _
  have e1 : ((y >>> n : Nat) : Int) = (y : Int) / 2 ^ n := by rw [Nat.shiftRight_eq_div_pow]; push_cast; rfl
  have e3 := band (y >>> n) 1 (by omega) (by omega)
  have e4 : (((y >>> n &&& 1 : Nat) : Int) == 1) = (y >>> n &&& 1 == 1) := by
    by_cases hq : y >>> n &&& 1 = 1
    · rw [hq]; rfl
    · rw [beq_eq_false_iff_ne.2 hq]; exact beq_eq_false_iff_ne.2 (by omega)
  rw [← e4]
  clear e4 d h ho
  obtain ⟨z, hzz⟩ : ∃ z, y >>> n &&& 1 = z := ⟨_, rfl⟩
  rw [hzz] at e3 ⊢
  rw [e1] at e3
  have e5 : bits .and .u64 ((y : Int) / 2 ^ n) 1 = (z : Int) := e3
  clear hzz hz e1 e3
  go_enter Tryz.func214, Tryz.ntmps214
  go_wp2_with fail
  refine wp_region_later w.heap.size (by kernel_rfl) (by kernel_rfl) ?_
  have hu : ∀ u : Later w.heap.size w, Below w.heap.size w u.world := Later.below
  repeat (go_big_quiet_step ((first | (go_at_call 201; exact later_same (FC.out _ (hu _))))))
  refine wpQuiet_nil ?_
  intro w2 b2
  go_wp2_with fail
  go_ret
  exact ⟨rfl, b2⟩
end Go.Proofs.YtbhgmccaecmpjaaGreat

namespace Go.Proofs.YtbhgmccaecmpjaaGreat
set_option linter.unusedVariables false
set_option linter.unusedSimpArgs false
open Go.RowKit

/-- What is met alone: a call, a slice that is made. -/
def isLone (o : Oper) : Bool := match o.op with
  | .call c => (match c.callee with | .value _ => true | .builtin .append => true | _ => false)
  | .buildSlice _ _ _ => true
  | _ => false
section
variable {P : Program} {ops : Array Oper} {Q : Exit → Act → World → Prop} {md : Region.Mode} {S : World → Prop}

def pickL (r : List Nat) (l : List Oper) : List Oper := r.filterMap fun k => l[k]?
theorem pickL_map {r : List Nat} {l : List Oper} (h : r.all (fun k => decide (k < l.length)) = true) : (pickL r l).map some = r.map (fun k => l.toArray[k]?) := by
  induction r with
  | nil => rfl
  | cons k r ih =>
    simp only [List.all_cons, Bool.and_eq_true, decide_eq_true_eq] at h
    unfold pickL at ih ⊢
    rw [List.filterMap_cons, List.getElem?_eq_getElem h.1, List.map_cons, List.map_cons, ih h.2]
    simp [List.getElem?_eq_getElem h.1]
variable {o : Oper} {l : List Oper} {a : Act} {w : World}
end
end Go.Proofs.YtbhgmccaecmpjaaGreat
