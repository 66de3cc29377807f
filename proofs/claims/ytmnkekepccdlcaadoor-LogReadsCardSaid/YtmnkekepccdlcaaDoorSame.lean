/-
  Two rows that hold the same events are one, as the reference compares them.
  Conditions: none.
-/
import Derived.Test.YtmnkekepccdlcaaDoorLogRd
namespace Go.Proofs.YtmnkekepccdlcaaDoor
set_option linter.unusedVariables false
set_option linter.unusedSimpArgs false
open Go.RowKit

theorem oev_at {B cap : Nat} {w : World} {ao : Option Addr} {l : List Ev} (h : OEv B w ao cap l) (i : Nat) (hi : i < l.length) :
    ∃ g, ao = some ⟨g, 0, none⟩ ∧ g < w.heap.size ∧ ∀ w', Below w.heap.size w w' → w'.cell? ⟨g, i * 12, none⟩ = some (.int .i64 l[i].kind) ∧ w'.cell? ⟨g, i * 12 + 1, none⟩ = some (.int .i64 l[i].id) ∧ w'.cell? ⟨g, i * 12 + 2, none⟩ = some (.int .i64 l[i].n) ∧ w'.cell? ⟨g, i * 12 + 3, none⟩ = some (.int .i64 l[i].tick) ∧ w'.cell? ⟨g, i * 12 + 4, none⟩ = some (.string l[i].bytes) ∧ w'.cell? ⟨g, i * 12 + 5, none⟩ = some (.int .i64 l[i].err) ∧ w'.cell? ⟨g, i * 12 + 6, none⟩ = some (.int .i64 l[i].sT) ∧ w'.cell? ⟨g, i * 12 + 7, none⟩ = some (.int .i64 l[i].sA) ∧ w'.cell? ⟨g, i * 12 + 8, none⟩ = some (.int .i64 l[i].sW) ∧ w'.cell? ⟨g, i * 12 + 9, none⟩ = some (.int .i64 l[i].sR) ∧ w'.cell? ⟨g, i * 12 + 10, none⟩ = some (.int .i64 l[i].sN) ∧ w'.cell? ⟨g, i * 12 + 11, none⟩ = some (.int .i64 l[i].sS) := by
  have hn := evsCells_len l
  unfold OEv at h
  obtain ⟨g, rfl, hg, h0⟩ := orow_cell h (i * 12) (by omega)
  refine ⟨g, rfl, hg, fun w' hb => ?_⟩
  have key : ∀ j, j < 12 → w'.cell? ⟨g, i * 12 + j, none⟩ = (evC l[i])[j]? := fun j hj => by
    obtain ⟨g1, e1, -, h1⟩ := orow_cell h (i * 12 + j) (by omega)
    cases e1
    exact (h1 w' hb).trans (evsCells_at l i hi j hj)
  exact ⟨key 0 (by decide), key 1 (by decide), key 2 (by decide), key 3 (by decide), key 4 (by decide), key 5 (by decide), key 6 (by decide), key 7 (by decide), key 8 (by decide), key 9 (by decide), key 10 (by decide), key 11 (by decide)⟩

set_option maxHeartbeats 4000000 in
set_option maxRecDepth 100000 in
theorem sSame (l : List Ev) (ao bo : Option Addr) (ca cb B1 B2 : Nat) (w : World) (ha : OEv B1 w ao ca l) (hb : OEv B2 w bo cb l) (hl : l.length ≤ 100000) :
    Calls Tryd.prog 9 #[.slice ao l.length ca, .slice bo l.length cb] w fun e w' => e = .returned (.bool true) ∧ Below w.heap.size w w' := by
  have HA := Lib.hid (fun i hi => oev_at ha i hi)
  have HB := Lib.hid (fun i hi => oev_at hb i hi)
  clear ha hb
  go_enter Tryd.func9, Tryd.ntmps9
  go_wp2_with fail
  go_loopw [5] (fun iv wr => ∃ k : Nat, iv = .int .i64 k ∧ k ≤ l.length ∧ Below w.heap.size w wr) (fun iv _ => l.length - (intOf iv).toNat)
  case atStart => exact ⟨0, rfl, Nat.zero_le _, Below.refl _ _⟩
  case round =>
    obtain ⟨i, rfl, hk, hbw⟩ := hrel
    have e0 : (0 : Int) ≤ (i : Int) := by omega
    by_cases hlt : i < l.length
    · obtain ⟨g, rfl, hg, d1⟩ := HA.out i hlt
      obtain ⟨g2, rfl, hg2, d2⟩ := HB.out i hlt
      have e1 : (i : Int) < (l.length : Int) := by omega
      generalize l[i] = x at *
      have d3 : ∀ w', Below wr.heap.size wr w' → w'.cell? ⟨g, i * 12, none⟩ = some (.int .i64 x.kind) ∧ w'.cell? ⟨g, i * 12 + 1, none⟩ = some (.int .i64 x.id) ∧ w'.cell? ⟨g, i * 12 + 2, none⟩ = some (.int .i64 x.n) ∧ w'.cell? ⟨g, i * 12 + 3, none⟩ = some (.int .i64 x.tick) ∧ w'.cell? ⟨g, i * 12 + 4, none⟩ = some (.string x.bytes) ∧ w'.cell? ⟨g, i * 12 + 5, none⟩ = some (.int .i64 x.err) ∧ w'.cell? ⟨g, i * 12 + 6, none⟩ = some (.int .i64 x.sT) ∧ w'.cell? ⟨g, i * 12 + 7, none⟩ = some (.int .i64 x.sA) ∧ w'.cell? ⟨g, i * 12 + 8, none⟩ = some (.int .i64 x.sW) ∧ w'.cell? ⟨g, i * 12 + 9, none⟩ = some (.int .i64 x.sR) ∧ w'.cell? ⟨g, i * 12 + 10, none⟩ = some (.int .i64 x.sN) ∧ w'.cell? ⟨g, i * 12 + 11, none⟩ = some (.int .i64 x.sS) := fun w' h => d1 w' (hbw.up h)
      have d4 : ∀ w', Below wr.heap.size wr w' → w'.cell? ⟨g2, i * 12, none⟩ = some (.int .i64 x.kind) ∧ w'.cell? ⟨g2, i * 12 + 1, none⟩ = some (.int .i64 x.id) ∧ w'.cell? ⟨g2, i * 12 + 2, none⟩ = some (.int .i64 x.n) ∧ w'.cell? ⟨g2, i * 12 + 3, none⟩ = some (.int .i64 x.tick) ∧ w'.cell? ⟨g2, i * 12 + 4, none⟩ = some (.string x.bytes) ∧ w'.cell? ⟨g2, i * 12 + 5, none⟩ = some (.int .i64 x.err) ∧ w'.cell? ⟨g2, i * 12 + 6, none⟩ = some (.int .i64 x.sT) ∧ w'.cell? ⟨g2, i * 12 + 7, none⟩ = some (.int .i64 x.sA) ∧ w'.cell? ⟨g2, i * 12 + 8, none⟩ = some (.int .i64 x.sW) ∧ w'.cell? ⟨g2, i * 12 + 9, none⟩ = some (.int .i64 x.sR) ∧ w'.cell? ⟨g2, i * 12 + 10, none⟩ = some (.int .i64 x.sN) ∧ w'.cell? ⟨g2, i * 12 + 11, none⟩ = some (.int .i64 x.sS) := fun w' h => d2 w' (hbw.up h)
      have hr := Below.refl wr.heap.size wr
      clear d1 d2 hg hg2
      go_upto_region 6 with fail
      refine wp_region_later wr.heap.size (by kernel_rfl) (by kernel_rfl) ?_
      have hu : ∀ u : Later wr.heap.size wr, Below wr.heap.size wr u.world := Later.below
      repeat (go_big_quiet_step ((fail)))
      refine wpQuiet_nil ?_
      intro w2 hb2
      clear hu hr d3 d4
      go_wp2_with fail
      go_roundw
      case rel => exact ⟨i + 1, by go_num, by omega, hbw.up hb2⟩
      case measure => simp [intOf]; omega
    · obtain rfl : i = l.length := by omega
      go_wp2_with fail
      go_ret
      exact ⟨rfl, hbw⟩
end Go.Proofs.YtmnkekepccdlcaaDoor
