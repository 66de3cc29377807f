/-
  The two rounds of WorldPrints, in memory of their own: what the first statement leaves.
  Conditions: the rounds' rows lie in the world.
-/
import Derived.Test.YtmnkekepccdlcaaGreatDoorWRound
import Derived.Deep.RegionLaw
import Derived.Deep.CutBlock
namespace Go.Proofs.YtmnkekepccdlcaaGreatDoor
set_option linter.unusedVariables false
set_option linter.unusedSimpArgs false
open Go.RowKit

theorem cutR_len (r : Rd) : RLen (cutR r) := by
  have h := (cutR_sml r (K := 8) (by decide)).2 (cutR r) (by simp)
  have hm : (100 : Nat) ≤ maxLen := by unfold maxLen; omega
  exact ⟨by omega, by omega, by omega, fun o ho => by have := cutR_bytes r o ho; omega⟩
/-- A round's cells, stored. -/
def set6 (w : World) (b : Nat) (h : Hd) (r : Rd) : World := ((((((w.setCell ⟨b, 0, none⟩ (.int .i64 r.ticks)).setCell ⟨b, 1, none⟩ (.slice h.oa r.opens.length h.oc)).setCell ⟨b, 2, none⟩ (.slice h.fa r.offers.length h.fc)).setCell ⟨b, 3, none⟩ (.slice h.pa r.reports.length h.pc)).setCell ⟨b, 4, none⟩ (.int .i64 r.drain)).setCell ⟨b, 5, none⟩ (.bool r.abort))
section
variable {w : World} {b q : Nat} {h h0 : Hd} {r r0 : Rd}
theorem grown6 : w.grownBy (set6 w b h r) (some b) :=
  only_setCell (p := ⟨b, 5, none⟩) (only_setCell (p := ⟨b, 4, none⟩) (only_setCell (p := ⟨b, 3, none⟩) (only_setCell (p := ⟨b, 2, none⟩) (only_setCell (p := ⟨b, 1, none⟩) (only_setCell (p := ⟨b, 0, none⟩) (only_below (Below.refl w.heap.size w) (some b)) (.inl rfl) (.int .i64 r.ticks)) (.inl rfl) (.slice h.oa r.opens.length h.oc)) (.inl rfl) (.slice h.fa r.offers.length h.fc)) (.inl rfl) (.slice h.pa r.reports.length h.pc)) (.inl rfl) (.int .i64 r.drain)) (.inl rfl) (.bool r.abort)
theorem Blk.set6r (k : Blk w b 59 (rC h0 r0).toArray) : Blk (set6 w b h r) b 59 (rC h r).toArray := by
  have e1 := (((((k.set_ 0 (.int .i64 r.ticks)).set_ 1 (.slice h.oa r.opens.length h.oc)).set_ 2 (.slice h.fa r.offers.length h.fc)).set_ 3 (.slice h.pa r.reports.length h.pc)).set_ 4 (.int .i64 r.drain)).set_ 5 (.bool r.abort)
  unfold set6
  simpa [rC] using e1
theorem Blk.far6 {t : TypeId} {cs : Array Value} (k : Blk w q t cs) (hq : q ≠ b) : Blk (set6 w b h r) q t cs := k.grown grown6 (fun e => hq (Option.some.inj e))
theorem RIn.far6 {B : Nat} {h1 : Hd} {r1 : Rd} {cs : Array Value} (i : RIn B w h1 r1) (k : Blk w b 59 cs) : RIn B (set6 w b h r) h1 r1 :=
  i.same fun g hg => grown6.block g (i.lt hg).2 fun e => by
    have := Option.some.inj e
    subst this
    exact i.off k (by decide) (by decide) (by decide) hg
end
/-- Two rounds in their boxes. -/
structure Pr (W w : World) (hA hO : Hd) (R O : Rd) : Prop where
  k0 : Blk w W.heap.size 59 (rC hA R).toArray
  k1 : Blk w (W.heap.size + 1) 59 (rC hO O).toArray
  ia : RIn W.heap.size w hA R
  io : RIn W.heap.size w hO O
  bel : Below W.heap.size W w
theorem pr_done {W w : World} {h1 h2 hA hO : Hd} {r1 r2 R O : Rd} (k0 : Blk w W.heap.size 59 (rC h1 r1).toArray) (k1 : Blk w (W.heap.size + 1) 59 (rC h2 r2).toArray) (ia : RIn W.heap.size w hA R) (io : RIn W.heap.size w hO O) (b : Below W.heap.size W w) :
    Pr W (set6 (set6 w W.heap.size hA R) (W.heap.size + 1) hO O) hA hO R O ∧ Pr W (set6 (set6 w (W.heap.size + 1) hO O) W.heap.size hA R) hA hO R O := by
  have n1 : W.heap.size ≠ W.heap.size + 1 := by omega
  have n2 : W.heap.size + 1 ≠ W.heap.size := by omega
  have x1 : Blk (set6 w W.heap.size hA R) (W.heap.size + 1) 59 (rC h2 r2).toArray := k1.far6 n2
  have x2 : Blk (set6 w (W.heap.size + 1) hO O) W.heap.size 59 (rC h1 r1).toArray := k0.far6 n1
  have hs := b.size
  exact ⟨⟨k0.set6r.far6 n1, x1.set6r, (ia.far6 k0).far6 x1, (io.far6 k0).far6 x1, (b.trans (only_to grown6 b.size (Nat.le_refl _))).trans (only_to grown6 (Nat.le_trans b.size grown6.size) (by omega))⟩,
    ⟨x2.set6r, k1.set6r.far6 n2, (ia.far6 k1).far6 x2, (io.far6 k1).far6 x2, (b.trans (only_to grown6 b.size (by omega))).trans (only_to grown6 (Nat.le_trans b.size grown6.size) (Nat.le_refl _))⟩⟩
end Go.Proofs.YtmnkekepccdlcaaGreatDoor
