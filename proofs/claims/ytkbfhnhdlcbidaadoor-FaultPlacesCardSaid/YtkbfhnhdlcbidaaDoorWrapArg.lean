/-
  A slice of wraps that came in: what its cells hold.
  Conditions: none.
-/
import Derived.Test.YtkbfhnhdlcbidaaDoorSliceAgg
import Derived.Test.YtkbfhnhdlcbidaaDoorFault2
namespace Go.Proofs.YtkbfhnhdlcbidaaDoor
open Go.ChangeShapes Go.WideShapes Go.ChangeAt Go.RowKit Go.Joins Go.Deep

theorem bd64 {n : Int} (h : (Lit.int .i64 n).wf = true) : i64 n := by
  unfold i64; exact bd_i64 h
section
variable {H : Type} {enc : TypeId × Value → H} {w : World} {base : Nat} {spare : Nat → Bool} {held : Bool}
set_option maxRecDepth 100000 in
theorem open_spot {cs : List Value} {m : Nat} {y : DataW H × List MemPlace} (h : DataW.trod enc Tryd.prog w base spare held m 33 cs = some y) :
    ∃ l c : Int, cs = [.int .i64 l, .int .i64 c] ∧ i64 l ∧ i64 c := by
  have k0 : Tryd.prog.cellsOf 3 = 1 := by kernel_rfl
  have k2 : Tryd.prog.cellsOf 33 = 2 := by kernel_rfl
  obtain ⟨xs, n, _, _, hl, hlen, hg⟩ := DataW.trod_struct Tryd.underlying33 h
  rw [k2] at hl
  match cs, hl with
  | [c0, c1], _ =>
    match xs, hlen with
    | [y0, y1], _ =>
      have h0 : DataW.trod enc Tryd.prog w base spare held n 3 [c0] = some y0 := by simpa [k0] using hg 0 _ rfl
      have h1 : DataW.trod enc Tryd.prog w base spare held n 3 [c1] = some y1 := by simpa [k0] using hg 1 _ rfl
      obtain ⟨l, rfl, w0⟩ := field_int Tryd.underlying3 h0
      obtain ⟨c, rfl, w1⟩ := field_int Tryd.underlying3 h1
      exact ⟨l, c, rfl, bd64 w0, bd64 w1⟩
set_option maxRecDepth 100000 in
theorem open_wrap {cs : List Value} {m : Nat} {y : DataW H × List MemPlace} (h : DataW.trod enc Tryd.prog w base spare held m 39 cs = some y) :
    ∃ W : Wr, cs = wrCells W ∧ i64 W.line ∧ i64 W.col := by
  have k0 : Tryd.prog.cellsOf 4 = 1 := by kernel_rfl
  have k1 : Tryd.prog.cellsOf 33 = 2 := by kernel_rfl
  have k2 : Tryd.prog.cellsOf 9 = 1 := by kernel_rfl
  have k3 : Tryd.prog.cellsOf 39 = 4 := by kernel_rfl
  obtain ⟨xs, n, _, _, hl, hlen, hg⟩ := DataW.trod_struct Tryd.underlying39 h
  rw [k3] at hl
  match cs, hl with
  | [c0, c1, c2, c3], _ =>
    match xs, hlen with
    | [y0, y1, y2], _ =>
      have h0 : DataW.trod enc Tryd.prog w base spare held n 4 [c0] = some y0 := by simpa [k0] using hg 0 _ rfl
      have h1 : DataW.trod enc Tryd.prog w base spare held n 33 [c1, c2] = some y1 := by simpa [k1] using hg 1 _ rfl
      have h2 : DataW.trod enc Tryd.prog w base spare held n 9 [c3] = some y2 := by simpa [k2] using hg 2 _ rfl
      obtain ⟨a, rfl⟩ := field_bool Tryd.underlying4 h0
      obtain ⟨l, c, hc, w0, w1⟩ := open_spot h1
      obtain ⟨s, rfl, _⟩ := field_string Tryd.underlying9 h2
      cases hc
      exact ⟨⟨a, l, c, s⟩, rfl, w0, w1⟩
theorem build_list {α : Type} (p : Nat → α → Prop) : ∀ n, (∀ i, i < n → ∃ x, p i x) → ∃ l : List α, l.length = n ∧ ∀ i (h : i < l.length), p i l[i]
  | 0, _ => ⟨[], rfl, fun i h => absurd h (by simp)⟩
  | n + 1, hp => by
    obtain ⟨l, hl, hl2⟩ := build_list p n (fun i h => hp i (by omega))
    obtain ⟨x, hx⟩ := hp n (by omega)
    refine ⟨l ++ [x], by simp [hl], fun i h => ?_⟩
    by_cases hi : i < l.length
    · rw [List.getElem_append_left hi]; exact hl2 i hi
    · have : i = n := by simp at h; omega
      subst this
      rw [List.getElem_append_right (by omega)]
      simpa [hl] using hx
set_option maxRecDepth 100000 in
theorem open_wrapsArg {r : Reach} {b0 : Nat} {v : Value} {d : DataW H} {ps : List MemPlace} (hval : Value.okWide Tryd.prog w r b0 22 v) (hd : DataW.Trod enc Tryd.prog w base spare held 22 v d ps) :
    ∃ (ao : Option Addr) (cap : Nat) (ws : List Wr), v = .slice ao ws.length cap ∧ ws.length ≤ maxLen ∧ WIn w ao ws ∧ ∀ W ∈ ws, i64 W.line ∧ i64 W.col := by
  obtain ⟨ao, len, cap, rfl, hm, hcell⟩ := open_cellsArg Tryd.underlying22 (c := 4) (by kernel_rfl) (by omega) hval hd
  obtain ⟨ws, rfl, hws⟩ := build_list (fun i (W : Wr) => (i64 W.line ∧ i64 W.col) ∧ ∃ b off, ao = some ⟨b, off, none⟩ ∧ ∀ j, j < 4 → w.cell? ⟨b, off + i * 4 + j, none⟩ = (wrCells W)[j]?) len (fun i hi => by
    obtain ⟨b, off, cs, n, y, e1, hl, hcs, hy⟩ := hcell i hi
    obtain ⟨W, rfl, h1, h2⟩ := open_wrap hy
    exact ⟨W, ⟨h1, h2⟩, b, off, e1, hcs⟩)
  refine ⟨ao, cap, ws, rfl, hm, fun i hi => ?_, fun W hW => ?_⟩
  · obtain ⟨-, b, off, e1, hc⟩ := hws i hi
    have hlt : b < w.heap.size := World.block_lt_of_cell? w _ (by exact hc 0 (by omega))
    refine ⟨b, off, e1, fun w' hb => ⟨?_, ?_, ?_, ?_⟩⟩
    · exact (hb.cell (p := ⟨b, off + i * 4, none⟩) hlt).trans (hc 0 (by omega))
    · exact (hb.cell (p := ⟨b, off + i * 4 + 1, none⟩) hlt).trans (hc 1 (by omega))
    · exact (hb.cell (p := ⟨b, off + i * 4 + 2, none⟩) hlt).trans (hc 2 (by omega))
    · exact (hb.cell (p := ⟨b, off + i * 4 + 3, none⟩) hlt).trans (hc 3 (by omega))
  · obtain ⟨i, hi, rfl⟩ := List.mem_iff_getElem.1 hW
    exact (hws i hi).1
end
end Go.Proofs.YtkbfhnhdlcbidaaDoor
