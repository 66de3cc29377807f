/-
  An event that came in: its twelve numbers and bytes; alone, or in a slice.
  Conditions: none; over any program.
-/
import Derived.Test.YtmnkekepccdlcaaGreatDoorLaw
import Derived.ChangeSlices
import Derived.Test.YtmnkekepccdlcaaGreatDoorLogL
namespace Go.Proofs.YtmnkekepccdlcaaGreatDoor
set_option linter.unusedVariables false
set_option linter.unusedSimpArgs false
open Go.ChangeShapes Go.WideShapes Go.ChangeAt Go.RowKit Go.Joins Go.Deep

section
variable {H : Type} {enc : TypeId × Value → H} {P : Program} {w : World} {base : Nat} {spare : Nat → Bool} {held : Bool}
theorem open_intsArg {r : Reach} {b0 : Nat} {t e : TypeId} {k : IntKind} {v : Value} {d : DataW H} {ps : List MemPlace} (ht : P.underlying t = some (.slice e)) (he : P.underlying e = some (.int k)) (hc : P.cellsOf e = 1)
    (hval : Value.okWide P w r b0 t v) (hd : DataW.Trod enc P w base spare held t v d ps) :
    ∃ (ao : Option Addr) (len cap : Nat) (zs : List Int), v = .slice ao len cap ∧ zs.length = len ∧ len ≤ maxLen ∧
      (∀ i (h : i < zs.length), ∃ b off, ao = some ⟨b, off, none⟩ ∧ w.cell? ⟨b, off + i, none⟩ = some (.int k zs[i])) ∧ (∀ n ∈ zs, (Lit.int k n).wf = true) := by
  obtain ⟨ao, len, cap, rfl⟩ := okWide_slice ht hval
  obtain ⟨fuel, hf⟩ := hd
  simp only [Value.cells] at hf
  rcases open_ints ht he hc hf with ⟨h, _⟩ | ⟨a, len', cap', zs, h, _, hlc, hm, hl, _, hcell, hwf⟩
  · simp only [List.cons.injEq, Value.slice.injEq, and_true] at h
    obtain ⟨rfl, rfl, rfl⟩ := h
    exact ⟨none, 0, 0, [], rfl, rfl, by decide, fun i h => absurd h (by simp), by simp⟩
  · simp only [List.cons.injEq, Value.slice.injEq, and_true] at h
    obtain ⟨rfl, rfl, rfl⟩ := h
    have hle : len ≤ zs.length := by rw [hl]; split <;> omega
    refine ⟨some a, len, cap, zs.take len, rfl, by simp; omega, by omega, fun i hi => ?_, fun n hn => hwf n (List.mem_of_mem_take hn)⟩
    simp only [List.length_take] at hi
    have h0 := hcell i (by omega)
    obtain ⟨b, off, sp⟩ := a
    have hsp : sp = none := by
      have := World.cell?_spot (hcell 0 (by omega))
      simpa [Addr.add] using this
    subst hsp
    refine ⟨b, off, rfl, ?_⟩
    rw [add_plain] at h0
    rw [h0, List.getElem_take, List.getD_eq_getElem?_getD, List.getElem?_eq_getElem (by omega)]
    rfl
end
end Go.Proofs.YtmnkekepccdlcaaGreatDoor

namespace Go.Proofs.YtmnkekepccdlcaaGreatDoor
set_option linter.unusedVariables false
set_option linter.unusedSimpArgs false
open Go.ChangeShapes Go.WideShapes Go.ChangeAt Go.RowKit Go.Joins Go.Deep

section
variable {H : Type} {enc : TypeId × Value → H} {P : Program} {w : World} {base : Nat} {spare : Nat → Bool} {held : Bool}
theorem open_cellsArg {r : Reach} {b0 c : Nat} {t e : TypeId} {v : Value} {d : DataW H} {ps : List MemPlace} (ht : P.underlying t = some (.slice e)) (hc : P.cellsOf e = c) (hpos : 0 < c)
    (hval : Value.okWide P w r b0 t v) (hd : DataW.Trod enc P w base spare held t v d ps) :
    ∃ (ao : Option Addr) (len cap : Nat), v = .slice ao len cap ∧ len ≤ maxLen ∧
      ∀ i, i < len → ∃ b off cs n y, ao = some ⟨b, off, none⟩ ∧ cs.length = c ∧ (∀ j, j < c → w.cell? ⟨b, off + i * c + j, none⟩ = cs[j]?) ∧ DataW.trod enc P w base spare held n e cs = some y := by
  subst hc
  obtain ⟨ao, len, cap, rfl⟩ := okWide_slice ht hval
  obtain ⟨fuel, hf⟩ := hd
  simp only [Value.cells] at hf
  rcases open_slice ht hf with ⟨h, _⟩ | ⟨a, len', cap', m, n, D, Pl, h, _, hlc, hm, hmm, _, hx⟩
  · simp only [List.cons.injEq, Value.slice.injEq, and_true] at h
    obtain ⟨rfl, rfl, rfl⟩ := h
    exact ⟨none, 0, 0, rfl, by decide, fun i h => absurd h (by simp)⟩
  · simp only [List.cons.injEq, Value.slice.injEq, and_true] at h
    obtain ⟨rfl, rfl, rfl⟩ := h
    have hle : len ≤ m := by rw [hmm]; split <;> omega
    refine ⟨some a, len, cap, rfl, by omega, fun i hi => ?_⟩
    obtain ⟨cs0, hx0, _⟩ := hx 0 (by omega)
    obtain ⟨b, off, sp⟩ := a
    obtain ⟨_, hl0, hc0⟩ := World.cells?_some hx0
    have hsp : sp = none := by
      have h1 := hc0 0 hpos
      rw [List.getElem?_eq_getElem (by omega)] at h1
      have := World.cell?_spot h1
      simpa [Addr.add] using this
    subst hsp
    obtain ⟨cs, hxi, hyi⟩ := hx i (by omega)
    obtain ⟨_, hl, hcs⟩ := World.cells?_some hxi
    refine ⟨b, off, cs, n, _, rfl, hl, fun j hj => ?_, hyi⟩
    have := hcs j hj
    rwa [add_plain, add_plain] at this

theorem open_strsArg {r : Reach} {b0 : Nat} {t e : TypeId} {v : Value} {d : DataW H} {ps : List MemPlace} (ht : P.underlying t = some (.slice e)) (he : P.underlying e = some .string) (hc : P.cellsOf e = 1)
    (hval : Value.okWide P w r b0 t v) (hd : DataW.Trod enc P w base spare held t v d ps) :
    ∃ (ao : Option Addr) (len cap : Nat), v = .slice ao len cap ∧ len ≤ maxLen ∧
      ∀ i, i < len → ∃ b off S, ao = some ⟨b, off, none⟩ ∧ w.cell? ⟨b, off + i, none⟩ = some (.string S) ∧ S.size ≤ maxLen := by
  obtain ⟨ao, len, cap, rfl, hm, hcell⟩ := open_cellsArg ht hc (by omega) hval hd
  refine ⟨ao, len, cap, rfl, hm, fun i hi => ?_⟩
  obtain ⟨b, off, cs, n, y, e1, hl, hcs, hy⟩ := hcell i hi
  match cs, hl with
  | [c0], _ =>
    obtain ⟨S, rfl, hS⟩ := field_string he hy
    have := hcs 0 (by omega)
    exact ⟨b, off, S, e1, by simpa using this, hS⟩

theorem open_cells3 {t : TypeId} {f0 f1 f2 : Field} {cs : List Value} {m : Nat} {y : DataW H × List MemPlace} (hs : P.underlying t = some (.struct #[f0, f1, f2])) (hone : oneCellFields P #[f0, f1, f2] = true) (hl : cs.length = 3)
    (h : DataW.trod enc P w base spare held m t cs = some y) :
    ∃ (c0 c1 c2 : Value) (y0 y1 y2 : DataW H × List MemPlace) (n : Nat), cs = [c0, c1, c2] ∧
      DataW.trod enc P w base spare held n f0.type [c0] = some y0 ∧ DataW.trod enc P w base spare held n f1.type [c1] = some y1 ∧ DataW.trod enc P w base spare held n f2.type [c2] = some y2 := by
  match cs, hl with
  | [c0, c1, c2], _ =>
    obtain ⟨xs, n, _, _, _, hlen, hg⟩ := DataW.trod_struct hs h
    obtain ⟨o0, k0⟩ := hone_of hone 0 f0 rfl
    obtain ⟨o1, k1⟩ := hone_of hone 1 f1 rfl
    obtain ⟨o2, k2⟩ := hone_of hone 2 f2 rfl
    match xs, hlen with
    | [y0, y1, y2], _ =>
      exact ⟨c0, c1, c2, y0, y1, y2, n, rfl, by simpa [Value.cells, o0, k0] using hg 0 f0 rfl, by simpa [Value.cells, o1, k1] using hg 1 f1 rfl, by simpa [Value.cells, o2, k2] using hg 2 f2 rfl⟩
end
end Go.Proofs.YtmnkekepccdlcaaGreatDoor

namespace Go.Proofs.YtmnkekepccdlcaaGreatDoor
set_option linter.unusedVariables false
set_option linter.unusedSimpArgs false
open Go.ChangeShapes Go.WideShapes Go.ChangeAt Go.RowKit Go.Joins Go.Deep

theorem bd64 {n : Int} (h : (Lit.int .i64 n).wf = true) : i64 n := by
  unfold i64; exact bd_i64 h
/-- All numbers of an event are numbers of the machine. -/
structure EvN (x : Ev) : Prop where
  kind : i64 x.kind
  id : i64 x.id
  n : i64 x.n
  tick : i64 x.tick
  err : i64 x.err
  sT : i64 x.sT
  sA : i64 x.sA
  sW : i64 x.sW
  sR : i64 x.sR
  sN : i64 x.sN
  sS : i64 x.sS
theorem EvN.cut {x : Ev} (h : EvN x) {b : ByteArray} (hb : b.size ≤ 20000) : Ev64 { x with bytes := b } :=
  ⟨h.id, h.n, h.tick, h.err, h.sT, h.sA, h.sW, h.sR, h.sN, h.sS, hb⟩
section
variable {H : Type} {enc : TypeId × Value → H} {w : World} {base : Nat} {spare : Nat → Bool} {held : Bool}
set_option maxRecDepth 100000 in
theorem open_step {cs : List Value} {m : Nat} {y : DataW H × List MemPlace} (h : DataW.trod enc Tryz.prog w base spare held m 25 cs = some y) :
    ∃ s1 s2 s3 s4 s5 s6 : Int, cs = [.int .i64 s1, .int .i64 s2, .int .i64 s3, .int .i64 s4, .int .i64 s5, .int .i64 s6] ∧ i64 s1 ∧ i64 s2 ∧ i64 s3 ∧ i64 s4 ∧ i64 s5 ∧ i64 s6 := by
  have k0 : Tryz.prog.cellsOf 3 = 1 := by kernel_rfl
  have k1 : Tryz.prog.cellsOf 2 = 1 := by kernel_rfl
  have k2 : Tryz.prog.cellsOf 25 = 6 := by kernel_rfl
  obtain ⟨xs, n, _, _, hl, hlen, hg⟩ := DataW.trod_struct Tryz.underlying25 h
  rw [k2] at hl
  match cs, hl with
  | [c0, c1, c2, c3, c4, c5], _ =>
    match xs, hlen with
    | [y0, y1, y2, y3, y4, y5], _ =>
      have h0 : DataW.trod enc Tryz.prog w base spare held n 2 [c0] = some y0 := by simpa [k0, k1] using hg 0 _ rfl
      have h1 : DataW.trod enc Tryz.prog w base spare held n 3 [c1] = some y1 := by simpa [k0, k1] using hg 1 _ rfl
      have h2 : DataW.trod enc Tryz.prog w base spare held n 3 [c2] = some y2 := by simpa [k0, k1] using hg 2 _ rfl
      have h3 : DataW.trod enc Tryz.prog w base spare held n 3 [c3] = some y3 := by simpa [k0, k1] using hg 3 _ rfl
      have h4 : DataW.trod enc Tryz.prog w base spare held n 3 [c4] = some y4 := by simpa [k0, k1] using hg 4 _ rfl
      have h5 : DataW.trod enc Tryz.prog w base spare held n 3 [c5] = some y5 := by simpa [k0, k1] using hg 5 _ rfl
      obtain ⟨a0, rfl, w0⟩ := field_int Tryz.underlying2 h0
      obtain ⟨a1, rfl, w1⟩ := field_int Tryz.underlying3 h1
      obtain ⟨a2, rfl, w2⟩ := field_int Tryz.underlying3 h2
      obtain ⟨a3, rfl, w3⟩ := field_int Tryz.underlying3 h3
      obtain ⟨a4, rfl, w4⟩ := field_int Tryz.underlying3 h4
      obtain ⟨a5, rfl, w5⟩ := field_int Tryz.underlying3 h5
      exact ⟨a0, a1, a2, a3, a4, a5, rfl, bd64 w0, bd64 w1, bd64 w2, bd64 w3, bd64 w4, bd64 w5⟩
set_option maxRecDepth 100000 in
theorem open_event {cs : List Value} {m : Nat} {y : DataW H × List MemPlace} (h : DataW.trod enc Tryz.prog w base spare held m 27 cs = some y) :
    ∃ x : Ev, cs = (evC x).toList ∧ EvN x ∧ x.bytes.size ≤ maxLen := by
  have k0 : Tryz.prog.cellsOf 3 = 1 := by kernel_rfl
  have k1 : Tryz.prog.cellsOf 2 = 1 := by kernel_rfl
  have k2 : Tryz.prog.cellsOf 9 = 1 := by kernel_rfl
  have k3 : Tryz.prog.cellsOf 23 = 1 := by kernel_rfl
  have k4 : Tryz.prog.cellsOf 25 = 6 := by kernel_rfl
  have k5 : Tryz.prog.cellsOf 27 = 12 := by kernel_rfl
  obtain ⟨xs, n, _, _, hl, hlen, hg⟩ := DataW.trod_struct Tryz.underlying27 h
  rw [k5] at hl
  match cs, hl with
  | [c0, c1, c2, c3, c4, c5, c6, c7, c8, c9, c10, c11], _ =>
    match xs, hlen with
    | [y0, y1, y2, y3, y4, y5, y6], _ =>
      have h0 : DataW.trod enc Tryz.prog w base spare held n 3 [c0] = some y0 := by simpa [k0, k1, k2, k3, k4] using hg 0 _ rfl
      have h1 : DataW.trod enc Tryz.prog w base spare held n 3 [c1] = some y1 := by simpa [k0, k1, k2, k3, k4] using hg 1 _ rfl
      have h2 : DataW.trod enc Tryz.prog w base spare held n 3 [c2] = some y2 := by simpa [k0, k1, k2, k3, k4] using hg 2 _ rfl
      have h3 : DataW.trod enc Tryz.prog w base spare held n 2 [c3] = some y3 := by simpa [k0, k1, k2, k3, k4] using hg 3 _ rfl
      have h4 : DataW.trod enc Tryz.prog w base spare held n 9 [c4] = some y4 := by simpa [k0, k1, k2, k3, k4] using hg 4 _ rfl
      have h5 : DataW.trod enc Tryz.prog w base spare held n 23 [c5] = some y5 := by simpa [k0, k1, k2, k3, k4] using hg 5 _ rfl
      have h6 : DataW.trod enc Tryz.prog w base spare held n 25 [c6, c7, c8, c9, c10, c11] = some y6 := by simpa [k0, k1, k2, k3, k4] using hg 6 _ rfl
      obtain ⟨a0, rfl, w0⟩ := field_int Tryz.underlying3 h0
      obtain ⟨a1, rfl, w1⟩ := field_int Tryz.underlying3 h1
      obtain ⟨a2, rfl, w2⟩ := field_int Tryz.underlying3 h2
      obtain ⟨a3, rfl, w3⟩ := field_int Tryz.underlying2 h3
      obtain ⟨a4, rfl, w4⟩ := field_string Tryz.underlying9 h4
      obtain ⟨a5, rfl, w5⟩ := field_int Tryz.underlying23 h5
      obtain ⟨s1, s2, s3, s4, s5, s6, hc, v1, v2, v3, v4, v5, v6⟩ := open_step h6
      cases hc
      exact ⟨⟨a0, a1, a2, a3, a4, a5, s1, s2, s3, s4, s5, s6⟩, rfl, ⟨bd64 w0, bd64 w1, bd64 w2, bd64 w3, bd64 w5, v1, v2, v3, v4, v5, v6⟩, w4⟩
set_option maxRecDepth 100000 in
theorem open_evArg {r : Reach} {b0 : Nat} {v : Value} {d : DataW H} {ps : List MemPlace} (hval : Value.okWide Tryz.prog w r b0 27 v) (hd : DataW.Trod enc Tryz.prog w base spare held 27 v d ps) :
    ∃ x : Ev, v = .agg (evC x) ∧ EvN x ∧ x.bytes.size ≤ maxLen := by
  obtain ⟨cs, rfl, hsz⟩ := okWide_struct Tryz.underlying27 hval
  obtain ⟨fuel, hf⟩ := hd
  obtain ⟨x, hx, h1, h2⟩ := open_event hf
  have : cs = evC x := by
    apply Array.ext'
    simpa [Value.cells] using hx
  exact ⟨x, by rw [this], h1, h2⟩
theorem build_list {α : Type} (p : Nat → α → Prop) : ∀ n, (∀ i, i < n → ∃ x, p i x) → ∃ l : List α, l.length = n ∧ ∀ i (h : i < l.length), p i l[i]
  | 0, _ => ⟨[], rfl, fun i h => absurd h (by simp)⟩
  | n + 1, hp => by
    obtain ⟨l, hl, hl2⟩ := build_list p n (fun i h => hp i (by omega))
    obtain ⟨x, hx⟩ := hp n (by omega)
    refine ⟨l ++ [x], by simp [hl], fun i h => ?_⟩
    by_cases hi : i < l.length
    · rw [List.getElem_append_left hi]; exact hl2 i hi
    · have : i = n := by simp at h; omega
      subst this
      rw [List.getElem_append_right (by omega)]
      simpa [hl] using hx
/-- A slice of events that came in: its cells hold a list of events, and go on holding it. -/
def EIn (w : World) (ao : Option Addr) (l : List Ev) : Prop :=
  ∀ i (h : i < l.length), ∃ b off, ao = some ⟨b, off, none⟩ ∧ b < w.heap.size ∧ ∀ j, j < 12 → w.cell? ⟨b, off + i * 12 + j, none⟩ = (evC l[i])[j]?
set_option maxRecDepth 100000 in
theorem open_evsArg {r : Reach} {b0 : Nat} {v : Value} {d : DataW H} {ps : List MemPlace} (hval : Value.okWide Tryz.prog w r b0 38 v) (hd : DataW.Trod enc Tryz.prog w base spare held 38 v d ps) :
    ∃ (ao : Option Addr) (cap : Nat) (l : List Ev), v = .slice ao l.length cap ∧ l.length ≤ maxLen ∧ EIn w ao l ∧ ∀ x ∈ l, EvN x ∧ x.bytes.size ≤ maxLen := by
  obtain ⟨ao, len, cap, rfl, hm, hcell⟩ := open_cellsArg Tryz.underlying38 (c := 12) (by kernel_rfl) (by omega) hval hd
  obtain ⟨l, rfl, hl⟩ := build_list (fun i (x : Ev) => (EvN x ∧ x.bytes.size ≤ maxLen) ∧ ∃ b off, ao = some ⟨b, off, none⟩ ∧ ∀ j, j < 12 → w.cell? ⟨b, off + i * 12 + j, none⟩ = (evC x)[j]?) len (fun i hi => by
    obtain ⟨b, off, cs, n, y, e1, hl, hcs, hy⟩ := hcell i hi
    obtain ⟨x, rfl, h1, h2⟩ := open_event hy
    exact ⟨x, ⟨h1, h2⟩, b, off, e1, fun j hj => by rw [hcs j hj]; simp⟩)
  refine ⟨ao, cap, l, rfl, hm, fun i hi => ?_, fun x hx => ?_⟩
  · obtain ⟨-, b, off, e1, hc⟩ := hl i hi
    have hlt : b < w.heap.size := World.block_lt_of_cell? w _ (by exact hc 0 (by omega))
    exact ⟨b, off, e1, hlt, hc⟩
  · obtain ⟨i, hi, rfl⟩ := List.mem_iff_getElem.1 hx
    exact (hl i hi).1
end
end Go.Proofs.YtmnkekepccdlcaaGreatDoor
