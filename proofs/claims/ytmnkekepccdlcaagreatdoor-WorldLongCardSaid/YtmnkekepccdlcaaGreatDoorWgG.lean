/-
  What the variables hold that reading and writing rounds looks at; numbers and joined words as texts.
  Conditions: none.
-/
import Derived.Test.YtmnkekepccdlcaaGreatDoorWgE
import Derived.Test.YtmnkekepccdlcaaGreatDoorWgA
import Derived.Test.YtmnkekepccdlcaaGreatDoorQuote
import Derived.Lib.Join
import Derived.Test.YtmnkekepccdlcaaGreatDoorLaw
import Derived.ChangeSlices
import Derived.Test.YtmnkekepccdlcaaGreatDoorWgB
namespace Go.Proofs.YtmnkekepccdlcaaGreatDoor
set_option linter.unusedVariables false
set_option linter.unusedSimpArgs false
open Go.RowKit

structure EnvW (w : World) : Prop where
  pow : Pow w
  range : RangeV w
  maxl : ∃ m, w.cell? ⟨0, 0, none⟩ = some (.int .i64 m)
theorem cellW_later {w w' : World} {g : Nat} {v : Value} (h : w.cell? ⟨g, 0, none⟩ = some v) (hb : Below w.heap.size w w') : w'.cell? ⟨g, 0, none⟩ = some v := (hb.cell (p := ⟨g, 0, none⟩) (block_lt h)).trans h
theorem EnvW.later {w w' : World} (h : EnvW w) (hb : Below w.heap.size w w') : EnvW w' :=
  ⟨pow_later h.pow hb, range_later h.range hb, (by obtain ⟨m, e⟩ := h.maxl; exact ⟨m, cellW_later e hb⟩)⟩
def WS (w : World) (g : Nat) (ws : List (List UInt8)) : Prop := ∀ (i : Nat) (x : List UInt8), ws[i]? = some x → w.cell? ⟨g, i, none⟩ = some (.string ⟨x.toArray⟩)
theorem ws_of {w : World} {g : Nat} {ws : List (List UInt8)} (h : Blk w g 9 (ws.map fun l => Value.string ⟨l.toArray⟩).toArray) : WS w g ws := fun i x hx => (h.cell i).trans (by simp [hx])
theorem wItoa (n : Int) (w : World) (hn : i64 n) (hp : Pow w) : Calls Tryz.prog 75 #[.int .i64 n] w fun e w' => e = .returned (.string ⟨(Lib.itoa n).toArray⟩) ∧ Below w.heap.size w w' := by
  unfold i64 at hn
  refine (Tryz.strconv_Itoa n (by omega) (by omega) w hp).mono ?_
  rintro e w' ⟨rfl, k, os, rfl⟩
  exact ⟨rfl, below_growD _ _ _⟩
theorem joinW_eq : ∀ l : List (List UInt8), Lib.join l [32] = joinL l
  | [] => rfl
  | [x] => Lib.join_one x [32]
  | x :: y :: l => by
    have ih := joinW_eq (y :: l)
    rw [Lib.join_cons] at ih ⊢
    show x ++ Lib.joinTail [32] (y :: l) = x ++ 32 :: joinL (y :: l)
    rw [← ih]
    rfl
theorem wJoin (ws : List (List UInt8)) (g cap : Nat) (w : World) (hk : WS w g ws) (hg : g < w.heap.size) (hc : ws.length ≤ cap) (h1 : ws.length ≤ 1000) (hz : (joinL ws).length ≤ 1000000) :
    Calls Tryz.prog 78 #[.slice (some ⟨g, 0, none⟩) ws.length cap, .string ⟨#[32]⟩] w fun e w' => e = .returned (.string ⟨(joinL ws).toArray⟩) ∧ Below w.heap.size w w' := by
  have hm : (ws.map fun l => (⟨l.toArray⟩ : ByteArray)).map (·.data.toList) = ws := by simp [List.map_map, Function.comp_def]
  have := Tryz.strings_Join g 0 cap (ws.map fun l => (⟨l.toArray⟩ : ByteArray)) ⟨#[32]⟩ w (fun j x hx => by
    rw [Nat.zero_add]
    rw [List.getElem?_map] at hx
    obtain ⟨y, hy, rfl⟩ := Option.map_eq_some_iff.1 hx
    exact hk j y hy) hg (by rw [List.length_map]; omega) (by rw [List.length_map]; exact hc) (by
    rw [hm]
    show (Lib.join ws [32]).length ≤ _
    rw [joinW_eq]
    omega)
  rw [hm, List.length_map] at this
  have e : Lib.join ws (⟨#[32]⟩ : ByteArray).data.toList = joinL ws := joinW_eq ws
  rw [e] at this
  exact this
theorem bld_later {B b : Nat} {l : List UInt8} {w w' : World} (h : Bld B b l w) (hb : Below w.heap.size w w') : Bld B b l w' := by
  have hg : w.grownBy w' none := ⟨hb.os, hb.tape, hb.output, hb.size, fun k hk _ => hb.block k hk⟩
  rcases h with ⟨h1, v, h2, h3, h4⟩ | ⟨h1, v, h2, h3, h4⟩
  · exact .inl ⟨h1, v, (hb.block b (Array.getElem?_eq_some_iff.1 h2).1).trans h2, h3.kept hg (Classical.em _), h4⟩
  · exact .inr ⟨h1, v, (hb.block b (Array.getElem?_eq_some_iff.1 h2).1).trans h2, h3.kept hg (Classical.em _), h4⟩
end Go.Proofs.YtmnkekepccdlcaaGreatDoor

namespace Go.Proofs.YtmnkekepccdlcaaGreatDoor
set_option linter.unusedVariables false
set_option linter.unusedSimpArgs false
open Go.ChangeShapes Go.WideShapes Go.ChangeAt Go.RowKit Go.Joins Go.Deep

section
variable {H : Type} {enc : TypeId × Value → H} {P : Program} {w : World} {base : Nat} {spare : Nat → Bool} {held : Bool}
theorem open_intsArg {r : Reach} {b0 : Nat} {t e : TypeId} {k : IntKind} {v : Value} {d : DataW H} {ps : List MemPlace} (ht : P.underlying t = some (.slice e)) (he : P.underlying e = some (.int k)) (hc : P.cellsOf e = 1)
    (hval : Value.okWide P w r b0 t v) (hd : DataW.Trod enc P w base spare held t v d ps) :
    ∃ (ao : Option Addr) (len cap : Nat) (zs : List Int), v = .slice ao len cap ∧ zs.length = len ∧ len ≤ maxLen ∧
      (∀ i (h : i < zs.length), ∃ b off, ao = some ⟨b, off, none⟩ ∧ w.cell? ⟨b, off + i, none⟩ = some (.int k zs[i])) ∧ (∀ n ∈ zs, (Lit.int k n).wf = true) := by
  obtain ⟨ao, len, cap, rfl⟩ := okWide_slice ht hval
  obtain ⟨fuel, hf⟩ := hd
  simp only [Value.cells] at hf
  rcases open_ints ht he hc hf with ⟨h, _⟩ | ⟨a, len', cap', zs, h, _, hlc, hm, hl, _, hcell, hwf⟩
  · simp only [List.cons.injEq, Value.slice.injEq, and_true] at h
    obtain ⟨rfl, rfl, rfl⟩ := h
    exact ⟨none, 0, 0, [], rfl, rfl, by decide, fun i h => absurd h (by simp), by simp⟩
  · simp only [List.cons.injEq, Value.slice.injEq, and_true] at h
    obtain ⟨rfl, rfl, rfl⟩ := h
    have hle : len ≤ zs.length := by rw [hl]; split <;> omega
    refine ⟨some a, len, cap, zs.take len, rfl, by simp; omega, by omega, fun i hi => ?_, fun n hn => hwf n (List.mem_of_mem_take hn)⟩
    simp only [List.length_take] at hi
    have h0 := hcell i (by omega)
    obtain ⟨b, off, sp⟩ := a
    have hsp : sp = none := by
      have := World.cell?_spot (hcell 0 (by omega))
      simpa [Addr.add] using this
    subst hsp
    refine ⟨b, off, rfl, ?_⟩
    rw [add_plain] at h0
    rw [h0, List.getElem_take, List.getD_eq_getElem?_getD, List.getElem?_eq_getElem (by omega)]
    rfl
end
end Go.Proofs.YtmnkekepccdlcaaGreatDoor

namespace Go.Proofs.YtmnkekepccdlcaaGreatDoor
set_option linter.unusedVariables false
set_option linter.unusedSimpArgs false
open Go.ChangeShapes Go.WideShapes Go.ChangeAt Go.RowKit Go.Joins Go.Deep

section
variable {H : Type} {enc : TypeId × Value → H} {P : Program} {w : World} {base : Nat} {spare : Nat → Bool} {held : Bool}
theorem open_cellsArg {r : Reach} {b0 c : Nat} {t e : TypeId} {v : Value} {d : DataW H} {ps : List MemPlace} (ht : P.underlying t = some (.slice e)) (hc : P.cellsOf e = c) (hpos : 0 < c)
    (hval : Value.okWide P w r b0 t v) (hd : DataW.Trod enc P w base spare held t v d ps) :
    ∃ (ao : Option Addr) (len cap : Nat), v = .slice ao len cap ∧ len ≤ maxLen ∧
      ∀ i, i < len → ∃ b off cs n y, ao = some ⟨b, off, none⟩ ∧ cs.length = c ∧ (∀ j, j < c → w.cell? ⟨b, off + i * c + j, none⟩ = cs[j]?) ∧ DataW.trod enc P w base spare held n e cs = some y := by
  subst hc
  obtain ⟨ao, len, cap, rfl⟩ := okWide_slice ht hval
  obtain ⟨fuel, hf⟩ := hd
  simp only [Value.cells] at hf
  rcases open_slice ht hf with ⟨h, _⟩ | ⟨a, len', cap', m, n, D, Pl, h, _, hlc, hm, hmm, _, hx⟩
  · simp only [List.cons.injEq, Value.slice.injEq, and_true] at h
    obtain ⟨rfl, rfl, rfl⟩ := h
    exact ⟨none, 0, 0, rfl, by decide, fun i h => absurd h (by simp)⟩
  · simp only [List.cons.injEq, Value.slice.injEq, and_true] at h
    obtain ⟨rfl, rfl, rfl⟩ := h
    have hle : len ≤ m := by rw [hmm]; split <;> omega
    refine ⟨some a, len, cap, rfl, by omega, fun i hi => ?_⟩
    obtain ⟨cs0, hx0, _⟩ := hx 0 (by omega)
    obtain ⟨b, off, sp⟩ := a
    obtain ⟨_, hl0, hc0⟩ := World.cells?_some hx0
    have hsp : sp = none := by
      have h1 := hc0 0 hpos
      rw [List.getElem?_eq_getElem (by omega)] at h1
      have := World.cell?_spot h1
      simpa [Addr.add] using this
    subst hsp
    obtain ⟨cs, hxi, hyi⟩ := hx i (by omega)
    obtain ⟨_, hl, hcs⟩ := World.cells?_some hxi
    refine ⟨b, off, cs, n, _, rfl, hl, fun j hj => ?_, hyi⟩
    have := hcs j hj
    rwa [add_plain, add_plain] at this

theorem open_strsArg {r : Reach} {b0 : Nat} {t e : TypeId} {v : Value} {d : DataW H} {ps : List MemPlace} (ht : P.underlying t = some (.slice e)) (he : P.underlying e = some .string) (hc : P.cellsOf e = 1)
    (hval : Value.okWide P w r b0 t v) (hd : DataW.Trod enc P w base spare held t v d ps) :
    ∃ (ao : Option Addr) (len cap : Nat), v = .slice ao len cap ∧ len ≤ maxLen ∧
      ∀ i, i < len → ∃ b off S, ao = some ⟨b, off, none⟩ ∧ w.cell? ⟨b, off + i, none⟩ = some (.string S) ∧ S.size ≤ maxLen := by
  obtain ⟨ao, len, cap, rfl, hm, hcell⟩ := open_cellsArg ht hc (by omega) hval hd
  refine ⟨ao, len, cap, rfl, hm, fun i hi => ?_⟩
  obtain ⟨b, off, cs, n, y, e1, hl, hcs, hy⟩ := hcell i hi
  match cs, hl with
  | [c0], _ =>
    obtain ⟨S, rfl, hS⟩ := field_string he hy
    have := hcs 0 (by omega)
    exact ⟨b, off, S, e1, by simpa using this, hS⟩

theorem open_cells3 {t : TypeId} {f0 f1 f2 : Field} {cs : List Value} {m : Nat} {y : DataW H × List MemPlace} (hs : P.underlying t = some (.struct #[f0, f1, f2])) (hone : oneCellFields P #[f0, f1, f2] = true) (hl : cs.length = 3)
    (h : DataW.trod enc P w base spare held m t cs = some y) :
    ∃ (c0 c1 c2 : Value) (y0 y1 y2 : DataW H × List MemPlace) (n : Nat), cs = [c0, c1, c2] ∧
      DataW.trod enc P w base spare held n f0.type [c0] = some y0 ∧ DataW.trod enc P w base spare held n f1.type [c1] = some y1 ∧ DataW.trod enc P w base spare held n f2.type [c2] = some y2 := by
  match cs, hl with
  | [c0, c1, c2], _ =>
    obtain ⟨xs, n, _, _, _, hlen, hg⟩ := DataW.trod_struct hs h
    obtain ⟨o0, k0⟩ := hone_of hone 0 f0 rfl
    obtain ⟨o1, k1⟩ := hone_of hone 1 f1 rfl
    obtain ⟨o2, k2⟩ := hone_of hone 2 f2 rfl
    match xs, hlen with
    | [y0, y1, y2], _ =>
      exact ⟨c0, c1, c2, y0, y1, y2, n, rfl, by simpa [Value.cells, o0, k0] using hg 0 f0 rfl, by simpa [Value.cells, o1, k1] using hg 1 f1 rfl, by simpa [Value.cells, o2, k2] using hg 2 f2 rfl⟩
end
end Go.Proofs.YtmnkekepccdlcaaGreatDoor

namespace Go.Proofs.YtmnkekepccdlcaaGreatDoor
set_option linter.unusedVariables false
set_option linter.unusedSimpArgs false
open Go.RowKit

/-- Where a round's rows are read, in every later world. -/
structure RAt (w : World) (h : Hd) (r : Rd) : Prop where
  os : ∀ k (_ : k < r.opens.length), ∃ g off, h.oa = some ⟨g, off, none⟩ ∧ ∀ w', Below w.heap.size w w' → w'.cell? ⟨g, off + k, none⟩ = some (.int .i64 r.opens[k])
  fs : ∀ k (_ : k < r.offers.length), ∃ g off, h.fa = some ⟨g, off, none⟩ ∧ ∀ w', Below w.heap.size w w' → w'.cell? ⟨g, off + k * 3, none⟩ = some (.int .i64 r.offers[k].id) ∧ w'.cell? ⟨g, off + k * 3 + 1, none⟩ = some (.string r.offers[k].bytes) ∧ w'.cell? ⟨g, off + k * 3 + 2, none⟩ = some (.bool r.offers[k].eof)
  ps : ∀ k (_ : k < r.reports.length), ∃ g off, h.pa = some ⟨g, off, none⟩ ∧ ∀ w', Below w.heap.size w w' → w'.cell? ⟨g, off + k * 4, none⟩ = some (.int .i64 r.reports[k].id) ∧ w'.cell? ⟨g, off + k * 4 + 1, none⟩ = some (.bool r.reports[k].read) ∧ w'.cell? ⟨g, off + k * 4 + 2, none⟩ = some (.bool r.reports[k].write) ∧ w'.cell? ⟨g, off + k * 4 + 3, none⟩ = some (.int .i64 r.reports[k].accept)
theorem RAt.later {w w1 : World} {h : Hd} {r : Rd} (a : RAt w h r) (hb : Below w.heap.size w w1) : RAt w1 h r :=
  ⟨fun k hk => by obtain ⟨g, off, e, d⟩ := a.os k hk; exact ⟨g, off, e, fun w' hw => d w' (hb.up hw)⟩, fun k hk => by obtain ⟨g, off, e, d⟩ := a.fs k hk; exact ⟨g, off, e, fun w' hw => d w' (hb.up hw)⟩, fun k hk => by obtain ⟨g, off, e, d⟩ := a.ps k hk; exact ⟨g, off, e, fun w' hw => d w' (hb.up hw)⟩⟩
theorem RIn.rat {B : Nat} {w : World} {h : Hd} {r : Rd} (i : RIn B w h r) : RAt w h r := by
  refine ⟨fun k hk => ?_, fun k hk => ?_, fun k hk => ?_⟩
  · obtain ⟨g, e, _, _⟩ := orow_cell i.os k (by simpa [icells] using hk)
    refine ⟨g, 0, e, fun w' hw => ?_⟩
    have i' := (i.later hw).os
    rw [e] at i'
    rw [Nat.zero_add]
    exact (World.ownsRow.cellAt i' k (by omega)).trans (by simp [icells, hk])
  · have hl := rows_len 3 ocells (fun _ => rfl) r.offers
    obtain ⟨g, e, _, _⟩ := orow_cell i.fs (k * 3) (by omega)
    refine ⟨g, 0, e, fun w' hw => ?_⟩
    have i' := (i.later hw).fs
    rw [e] at i'
    rw [Nat.zero_add]
    have key : ∀ j, j < 3 → w'.cell? ⟨g, k * 3 + j, none⟩ = (ocells r.offers[k])[j]? := fun j hj => (World.ownsRow.cellAt i' (k * 3 + j) (by omega)).trans (rows_at 3 ocells (fun _ => rfl) r.offers k hk j hj)
    exact ⟨key 0 (by decide), key 1 (by decide), key 2 (by decide)⟩
  · have hl := rows_len 4 pcells (fun _ => rfl) r.reports
    obtain ⟨g, e, _, _⟩ := orow_cell i.ps (k * 4) (by omega)
    refine ⟨g, 0, e, fun w' hw => ?_⟩
    have i' := (i.later hw).ps
    rw [e] at i'
    rw [Nat.zero_add]
    have key : ∀ j, j < 4 → w'.cell? ⟨g, k * 4 + j, none⟩ = (pcells r.reports[k])[j]? := fun j hj => (World.ownsRow.cellAt i' (k * 4 + j) (by omega)).trans (rows_at 4 pcells (fun _ => rfl) r.reports k hk j hj)
    exact ⟨key 0 (by decide), key 1 (by decide), key 2 (by decide), key 3 (by decide)⟩

theorem xIn (n most : Int) (w : World) : Calls Tryz.prog 93 #[.int .i64 n, .int .i64 most] w fun e w' => e = .returned (.bool (inT n 0 most)) ∧ w = w' := by
  by_cases h1 : 0 ≤ n
  · by_cases h2 : n ≤ most
    · have e : inT n 0 most = true := by unfold inT; simp [h1, h2]
      rw [e]
      go_enter Tryz.func93, Tryz.ntmps93
      go_wp2_with fail
      go_ret
      exact ⟨rfl, rfl⟩
    · have e : inT n 0 most = false := by unfold inT; simp [h2]
      rw [e]
      go_enter Tryz.func93, Tryz.ntmps93
      go_wp2_with fail
      go_ret
      exact ⟨rfl, rfl⟩
  · have e : inT n 0 most = false := by unfold inT; simp [h1]
    rw [e]
    go_enter Tryz.func93, Tryz.ntmps93
    go_wp2_with fail
    go_ret
    exact ⟨rfl, rfl⟩
theorem xInB {n most : Int} {b : Bool} (h : inT n 0 most = b) (w : World) : Calls Tryz.prog 93 #[.int .i64 n, .int .i64 most] w fun e w' => e = .returned (.bool b) ∧ w = w' := by rw [← h]; exact xIn n most w
theorem xGood1 (n : Int) (w : World) : Calls Tryz.prog 92 #[.int .i64 n] w fun e w' => e = .returned (.bool (!inT n 0 63)) ∧ Below w.heap.size w w' := by
  have F := Lib.hid (xIn n 63 w)
  cases hh : inT n 0 63
  all_goals (
    rw [hh] at F
    go_enter Tryz.func92, Tryz.ntmps92
    go_wp2_with fail
    refine F.out.mono ?_; rintro e w1 ⟨rfl, rfl⟩
    go_wp2_with fail
    go_ret
    exact ⟨rfl, Below.refl _ _⟩)
end Go.Proofs.YtmnkekepccdlcaaGreatDoor

namespace Go.Proofs.YtmnkekepccdlcaaGreatDoor
set_option linter.unusedVariables false
set_option linter.unusedSimpArgs false
open Go.ChangeShapes Go.WideShapes Go.ChangeAt Go.RowKit Go.Joins Go.Deep

section
variable {H : Type} {enc : TypeId × Value → H} {P : Program} {w : World} {base : Nat} {spare : Nat → Bool} {held : Bool}
theorem field_cells {c f : Nat} {t e : TypeId} {v : Value} {y : DataW H × List MemPlace} (ht : P.underlying t = some (.slice e)) (hc : P.cellsOf e = c) (hpos : 0 < c) (hf : DataW.trod enc P w base spare held f t [v] = some y) :
    ∃ (ao : Option Addr) (len cap : Nat), v = .slice ao len cap ∧ len ≤ maxLen ∧
      ∀ i, i < len → ∃ b off cs n y, ao = some ⟨b, off, none⟩ ∧ cs.length = c ∧ (∀ j, j < c → w.cell? ⟨b, off + i * c + j, none⟩ = cs[j]?) ∧ DataW.trod enc P w base spare held n e cs = some y := by
  subst hc
  rcases open_slice ht hf with ⟨h, _⟩ | ⟨a, len, cap, m, n, D, Pl, h, _, hlc, hm, hmm, _, hx⟩
  · simp only [List.cons.injEq, and_true] at h
    subst h
    exact ⟨none, 0, 0, rfl, by decide, fun i h => absurd h (by simp)⟩
  · simp only [List.cons.injEq, and_true] at h
    subst h
    have hle : len ≤ m := by rw [hmm]; split <;> omega
    refine ⟨some a, len, cap, rfl, by omega, fun i hi => ?_⟩
    obtain ⟨cs0, hx0, _⟩ := hx 0 (by omega)
    obtain ⟨b, off, sp⟩ := a
    obtain ⟨_, hl0, hc0⟩ := World.cells?_some hx0
    have hsp : sp = none := by
      have h1 := hc0 0 hpos
      rw [List.getElem?_eq_getElem (by omega)] at h1
      have := World.cell?_spot h1
      simpa [Addr.add] using this
    subst hsp
    obtain ⟨cs, hxi, hyi⟩ := hx i (by omega)
    obtain ⟨_, hl, hcs⟩ := World.cells?_some hxi
    refine ⟨b, off, cs, n, _, rfl, hl, fun j hj => ?_, hyi⟩
    have := hcs j hj
    rwa [add_plain, add_plain] at this
end
theorem build_list {α : Type} (p : Nat → α → Prop) : ∀ n, (∀ i, i < n → ∃ x, p i x) → ∃ l : List α, l.length = n ∧ ∀ i (h : i < l.length), p i l[i]
  | 0, _ => ⟨[], rfl, fun i h => absurd h (by simp)⟩
  | n + 1, hp => by
    obtain ⟨l, hl, hl2⟩ := build_list p n (fun i h => hp i (by omega))
    obtain ⟨x, hx⟩ := hp n (by omega)
    refine ⟨l ++ [x], by simp [hl], fun i h => ?_⟩
    by_cases hi : i < l.length
    · rw [List.getElem_append_left hi]; exact hl2 i hi
    · have : i = n := by simp at h; omega
      subst this
      rw [List.getElem_append_right (by omega)]
      simpa [hl] using hx
section
variable {H : Type} {enc : TypeId × Value → H} {w : World} {base : Nat} {spare : Nat → Bool} {held : Bool}
set_option maxRecDepth 100000 in
theorem open_offer {cs : List Value} {m : Nat} {y : DataW H × List MemPlace} (h : DataW.trod enc Tryz.prog w base spare held m 93 cs = some y) :
    ∃ o : Off, cs = ocells o ∧ o.bytes.size ≤ maxLen := by
  have k0 : Tryz.prog.cellsOf 3 = 1 := by kernel_rfl
  have k1 : Tryz.prog.cellsOf 9 = 1 := by kernel_rfl
  have k2 : Tryz.prog.cellsOf 4 = 1 := by kernel_rfl
  have k3 : Tryz.prog.cellsOf 93 = 3 := by kernel_rfl
  obtain ⟨xs, n, _, _, hl, hlen, hg⟩ := DataW.trod_struct Tryz.underlying93 h
  rw [k3] at hl
  match cs, hl with
  | [c0, c1, c2], _ =>
    match xs, hlen with
    | [y0, y1, y2], _ =>
      have h0 : DataW.trod enc Tryz.prog w base spare held n 3 [c0] = some y0 := by simpa [k0, k1, k2] using hg 0 _ rfl
      have h1 : DataW.trod enc Tryz.prog w base spare held n 9 [c1] = some y1 := by simpa [k0, k1, k2] using hg 1 _ rfl
      have h2 : DataW.trod enc Tryz.prog w base spare held n 4 [c2] = some y2 := by simpa [k0, k1, k2] using hg 2 _ rfl
      obtain ⟨a0, rfl, w0⟩ := field_int Tryz.underlying3 h0
      obtain ⟨a1, rfl, w1⟩ := field_string Tryz.underlying9 h1
      obtain ⟨a2, rfl⟩ := field_bool Tryz.underlying4 h2
      exact ⟨⟨a0, a1, a2⟩, rfl, w1⟩
set_option maxRecDepth 100000 in
theorem open_report {cs : List Value} {m : Nat} {y : DataW H × List MemPlace} (h : DataW.trod enc Tryz.prog w base spare held m 95 cs = some y) :
    ∃ o : Rep, cs = pcells o := by
  have k0 : Tryz.prog.cellsOf 3 = 1 := by kernel_rfl
  have k2 : Tryz.prog.cellsOf 4 = 1 := by kernel_rfl
  have k3 : Tryz.prog.cellsOf 95 = 4 := by kernel_rfl
  obtain ⟨xs, n, _, _, hl, hlen, hg⟩ := DataW.trod_struct Tryz.underlying95 h
  rw [k3] at hl
  match cs, hl with
  | [c0, c1, c2, c3], _ =>
    match xs, hlen with
    | [y0, y1, y2, y3], _ =>
      have h0 : DataW.trod enc Tryz.prog w base spare held n 3 [c0] = some y0 := by simpa [k0, k2] using hg 0 _ rfl
      have h1 : DataW.trod enc Tryz.prog w base spare held n 4 [c1] = some y1 := by simpa [k0, k2] using hg 1 _ rfl
      have h2 : DataW.trod enc Tryz.prog w base spare held n 4 [c2] = some y2 := by simpa [k0, k2] using hg 2 _ rfl
      have h3 : DataW.trod enc Tryz.prog w base spare held n 3 [c3] = some y3 := by simpa [k0, k2] using hg 3 _ rfl
      obtain ⟨a0, rfl, w0⟩ := field_int Tryz.underlying3 h0
      obtain ⟨a1, rfl⟩ := field_bool Tryz.underlying4 h1
      obtain ⟨a2, rfl⟩ := field_bool Tryz.underlying4 h2
      obtain ⟨a3, rfl, w3⟩ := field_int Tryz.underlying3 h3
      exact ⟨⟨a0, a1, a2, a3⟩, rfl⟩
/-- What a round that came in has of length. -/
structure RLen (r : Rd) : Prop where
  os : r.opens.length ≤ maxLen
  fs : r.offers.length ≤ maxLen
  ps : r.reports.length ≤ maxLen
  bs : ∀ o ∈ r.offers, o.bytes.size ≤ maxLen
set_option maxRecDepth 100000 in
theorem open_round {cs : List Value} {m : Nat} {y : DataW H × List MemPlace} (h : DataW.trod enc Tryz.prog w base spare held m 59 cs = some y) :
    ∃ (hd : Hd) (r : Rd), cs = rC hd r ∧ RAt w hd r ∧ RLen r := by
  have k0 : Tryz.prog.cellsOf 3 = 1 := by kernel_rfl
  have k1 : Tryz.prog.cellsOf 2 = 1 := by kernel_rfl
  have k2 : Tryz.prog.cellsOf 4 = 1 := by kernel_rfl
  have k3 : Tryz.prog.cellsOf 55 = 1 := by kernel_rfl
  have k4 : Tryz.prog.cellsOf 56 = 1 := by kernel_rfl
  have k5 : Tryz.prog.cellsOf 57 = 1 := by kernel_rfl
  have k6 : Tryz.prog.cellsOf 59 = 6 := by kernel_rfl
  obtain ⟨xs, n, _, _, hl, hlen, hg⟩ := DataW.trod_struct Tryz.underlying59 h
  rw [k6] at hl
  match cs, hl with
  | [c0, c1, c2, c3, c4, c5], _ =>
    match xs, hlen with
    | [y0, y1, y2, y3, y4, y5], _ =>
      have h0 : DataW.trod enc Tryz.prog w base spare held n 2 [c0] = some y0 := by simpa [k0, k1, k2, k3, k4, k5] using hg 0 _ rfl
      have h1 : DataW.trod enc Tryz.prog w base spare held n 55 [c1] = some y1 := by simpa [k0, k1, k2, k3, k4, k5] using hg 1 _ rfl
      have h2 : DataW.trod enc Tryz.prog w base spare held n 56 [c2] = some y2 := by simpa [k0, k1, k2, k3, k4, k5] using hg 2 _ rfl
      have h3 : DataW.trod enc Tryz.prog w base spare held n 57 [c3] = some y3 := by simpa [k0, k1, k2, k3, k4, k5] using hg 3 _ rfl
      have h4 : DataW.trod enc Tryz.prog w base spare held n 2 [c4] = some y4 := by simpa [k0, k1, k2, k3, k4, k5] using hg 4 _ rfl
      have h5 : DataW.trod enc Tryz.prog w base spare held n 4 [c5] = some y5 := by simpa [k0, k1, k2, k3, k4, k5] using hg 5 _ rfl
      obtain ⟨a0, rfl, w0⟩ := field_int Tryz.underlying2 h0
      obtain ⟨ao, al, ac, rfl, am, ah⟩ := field_cells Tryz.underlying55 (c := 1) k0 (by decide) h1
      obtain ⟨bo, bl, bc, rfl, bm, bh⟩ := field_cells Tryz.underlying56 (c := 3) (by kernel_rfl) (by decide) h2
      obtain ⟨co, cl, cc, rfl, cm, ch⟩ := field_cells Tryz.underlying57 (c := 4) (by kernel_rfl) (by decide) h3
      obtain ⟨a4, rfl, w4⟩ := field_int Tryz.underlying2 h4
      obtain ⟨a5, rfl⟩ := field_bool Tryz.underlying4 h5
      obtain ⟨l1, rfl, g1⟩ := build_list (fun i (x : Int) => ∃ b off, ao = some ⟨b, off, none⟩ ∧ w.cell? ⟨b, off + i, none⟩ = some (.int .i64 x)) al (fun i hi => by
        obtain ⟨b, off, cs, n, y, e1, hl, hcs, hy⟩ := ah i hi
        match cs, hl with
        | [q0], _ =>
          obtain ⟨x, rfl, _⟩ := field_int Tryz.underlying3 hy
          have := hcs 0 (by decide)
          exact ⟨x, b, off, e1, by simpa using this⟩)
      obtain ⟨l2, rfl, g2⟩ := build_list (fun i (x : Off) => x.bytes.size ≤ maxLen ∧ ∃ b off, bo = some ⟨b, off, none⟩ ∧ ∀ j, j < 3 → w.cell? ⟨b, off + i * 3 + j, none⟩ = (ocells x)[j]?) bl (fun i hi => by
        obtain ⟨b, off, cs, n, y, e1, hl, hcs, hy⟩ := bh i hi
        obtain ⟨x, rfl, hx⟩ := open_offer hy
        exact ⟨x, hx, b, off, e1, hcs⟩)
      obtain ⟨l3, rfl, g3⟩ := build_list (fun i (x : Rep) => ∃ b off, co = some ⟨b, off, none⟩ ∧ ∀ j, j < 4 → w.cell? ⟨b, off + i * 4 + j, none⟩ = (pcells x)[j]?) cl (fun i hi => by
        obtain ⟨b, off, cs, n, y, e1, hl, hcs, hy⟩ := ch i hi
        obtain ⟨x, rfl⟩ := open_report hy
        exact ⟨x, b, off, e1, hcs⟩)
      refine ⟨⟨ao, ac, bo, bc, co, cc⟩, ⟨a0, l1, l2, l3, a4, a5⟩, rfl, ⟨fun k hk => ?_, fun k hk => ?_, fun k hk => ?_⟩, ⟨am, bm, cm, fun o ho => ?_⟩⟩
      · obtain ⟨b, off, e1, hc⟩ := g1 k hk
        have hlt : b < w.heap.size := World.block_lt_of_cell? w _ hc
        exact ⟨b, off, e1, fun w' hb => (hb.cell (p := ⟨b, off + k, none⟩) hlt).trans hc⟩
      · obtain ⟨-, b, off, e1, hc⟩ := g2 k hk
        have hlt : b < w.heap.size := World.block_lt_of_cell? w _ (by exact hc 0 (by decide))
        exact ⟨b, off, e1, fun w' hb => ⟨(hb.cell (p := ⟨b, off + k * 3, none⟩) hlt).trans (hc 0 (by decide)), (hb.cell (p := ⟨b, off + k * 3 + 1, none⟩) hlt).trans (hc 1 (by decide)), (hb.cell (p := ⟨b, off + k * 3 + 2, none⟩) hlt).trans (hc 2 (by decide))⟩⟩
      · obtain ⟨b, off, e1, hc⟩ := g3 k hk
        have hlt : b < w.heap.size := World.block_lt_of_cell? w _ (by exact hc 0 (by decide))
        exact ⟨b, off, e1, fun w' hb => ⟨(hb.cell (p := ⟨b, off + k * 4, none⟩) hlt).trans (hc 0 (by decide)), (hb.cell (p := ⟨b, off + k * 4 + 1, none⟩) hlt).trans (hc 1 (by decide)), (hb.cell (p := ⟨b, off + k * 4 + 2, none⟩) hlt).trans (hc 2 (by decide)), (hb.cell (p := ⟨b, off + k * 4 + 3, none⟩) hlt).trans (hc 3 (by decide))⟩⟩
      · obtain ⟨i, hi, rfl⟩ := List.mem_iff_getElem.1 ho
        exact (g2 i hi).1
set_option maxRecDepth 100000 in
theorem open_rndArg {r : Reach} {b0 : Nat} {v : Value} {d : DataW H} {ps : List MemPlace} (hval : Value.okWide Tryz.prog w r b0 59 v) (hd : DataW.Trod enc Tryz.prog w base spare held 59 v d ps) :
    ∃ (hd : Hd) (x : Rd), v = .agg (rC hd x).toArray ∧ RAt w hd x ∧ RLen x := by
  obtain ⟨cs, rfl, hsz⟩ := okWide_struct Tryz.underlying59 hval
  obtain ⟨fuel, hf⟩ := hd
  obtain ⟨hd, x, hx, h1, h2⟩ := open_round hf
  have : cs = (rC hd x).toArray := by
    apply Array.ext'
    simpa [Value.cells] using hx
  exact ⟨hd, x, by rw [this], h1, h2⟩
/-- A slice of rounds that came in. -/
structure RsIn (w : World) (ao : Option Addr) (l : List (Hd × Rd)) : Prop where
  at_ : ∀ i (_ : i < l.length), ∃ g off, ao = some ⟨g, off, none⟩ ∧ ∀ w', Below w.heap.size w w' → w'.cell? ⟨g, off + i * 6, none⟩ = some (.int .i64 l[i].2.ticks) ∧ w'.cell? ⟨g, off + i * 6 + 1, none⟩ = some (.slice l[i].1.oa l[i].2.opens.length l[i].1.oc) ∧ w'.cell? ⟨g, off + i * 6 + 2, none⟩ = some (.slice l[i].1.fa l[i].2.offers.length l[i].1.fc) ∧ w'.cell? ⟨g, off + i * 6 + 3, none⟩ = some (.slice l[i].1.pa l[i].2.reports.length l[i].1.pc) ∧ w'.cell? ⟨g, off + i * 6 + 4, none⟩ = some (.int .i64 l[i].2.drain) ∧ w'.cell? ⟨g, off + i * 6 + 5, none⟩ = some (.bool l[i].2.abort)
  all : ∀ q ∈ l, RAt w q.1 q.2 ∧ RLen q.2
theorem RsIn.later {w w' : World} {ao : Option Addr} {l : List (Hd × Rd)} (h : RsIn w ao l) (hb : Below w.heap.size w w') : RsIn w' ao l :=
  ⟨fun i hi => by obtain ⟨g, off, e, d⟩ := h.at_ i hi; exact ⟨g, off, e, fun w'' hw => d w'' (hb.up hw)⟩, fun q hq => ⟨(h.all q hq).1.later hb, (h.all q hq).2⟩⟩
set_option maxRecDepth 100000 in
theorem open_rndsArg {r : Reach} {b0 : Nat} {v : Value} {d : DataW H} {ps : List MemPlace} (hval : Value.okWide Tryz.prog w r b0 47 v) (hd : DataW.Trod enc Tryz.prog w base spare held 47 v d ps) :
    ∃ (ao : Option Addr) (cap : Nat) (l : List (Hd × Rd)), v = .slice ao l.length cap ∧ l.length ≤ maxLen ∧ RsIn w ao l := by
  obtain ⟨ao, len, cap, rfl, hm, hcell⟩ := open_cellsArg Tryz.underlying47 (c := 6) (by kernel_rfl) (by omega) hval hd
  obtain ⟨l, rfl, hl⟩ := build_list (fun i (q : Hd × Rd) => (RAt w q.1 q.2 ∧ RLen q.2) ∧ ∃ b off, ao = some ⟨b, off, none⟩ ∧ ∀ j, j < 6 → w.cell? ⟨b, off + i * 6 + j, none⟩ = (rC q.1 q.2)[j]?) len (fun i hi => by
    obtain ⟨b, off, cs, n, y, e1, hl, hcs, hy⟩ := hcell i hi
    obtain ⟨hd, x, rfl, h1, h2⟩ := open_round hy
    exact ⟨(hd, x), ⟨h1, h2⟩, b, off, e1, hcs⟩)
  refine ⟨ao, cap, l, rfl, hm, fun i hi => ?_, fun x hx => ?_⟩
  · obtain ⟨-, b, off, e1, hc⟩ := hl i hi
    have hlt : b < w.heap.size := World.block_lt_of_cell? w _ (by exact hc 0 (by omega))
    exact ⟨b, off, e1, fun w' hb => ⟨(hb.cell (p := ⟨b, off + i * 6, none⟩) hlt).trans (hc 0 (by decide)), (hb.cell (p := ⟨b, off + i * 6 + 1, none⟩) hlt).trans (hc 1 (by decide)), (hb.cell (p := ⟨b, off + i * 6 + 2, none⟩) hlt).trans (hc 2 (by decide)), (hb.cell (p := ⟨b, off + i * 6 + 3, none⟩) hlt).trans (hc 3 (by decide)), (hb.cell (p := ⟨b, off + i * 6 + 4, none⟩) hlt).trans (hc 4 (by decide)), (hb.cell (p := ⟨b, off + i * 6 + 5, none⟩) hlt).trans (hc 5 (by decide))⟩⟩
  · obtain ⟨i, hi, rfl⟩ := List.mem_iff_getElem.1 hx
    exact (hl i hi).1
end
end Go.Proofs.YtmnkekepccdlcaaGreatDoor
