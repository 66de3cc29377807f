/-
  A round that is being made: its cells in a block, its rows of the call's own; a row grows.
  Conditions: none.
-/
import Derived.Test.YtmnkekepccdlcaaGreatDoorWorldD
import Derived.Test.YtmnkekepccdlcaaGreatDoorWgF
import Derived.Test.YtmnkekepccdlcaaGreatDoorWgB
namespace Go.Proofs.YtmnkekepccdlcaaGreatDoor
set_option linter.unusedVariables false
set_option linter.unusedSimpArgs false
open Go.RowKit

/-- What comes of one offer, and of a round, that is cut. -/
def cutO (o : Off) : Off := { o with bytes := cutT o.bytes 20 }
def cutR (r : Rd) : Rd := { r with opens := r.opens.take 4, offers := (r.offers.take 6).map cutO, reports := r.reports.take 8 }
theorem cutT_twice (s : ByteArray) (m : Nat) : cutT (cutT s m) m = cutT s m := by
  have h := cutT_size s m
  generalize cutT s m = t at *
  unfold cutT
  rw [if_neg (by omega)]
theorem cutR_twice (r : Rd) : cutR (cutR r) = cutR r := by
  have h : ∀ o, cutO (cutO o) = cutO o := fun o => by unfold cutO; simp only [cutT_twice]
  unfold cutR
  simp only [List.take_take, Nat.min_self, Rd.mk.injEq, true_and, and_true]
  rw [← List.map_take, List.take_take, Nat.min_self, List.map_map]
  congr 1
  funext o
  exact h o
theorem cutR_sml (r : Rd) {K : Nat} (h : 8 ≤ K) : Sml K [cutR r] := ⟨by simp; omega, fun x hx => by
  simp only [List.mem_singleton] at hx
  subst hx
  unfold cutR
  simp only [List.length_take, List.length_map]
  omega⟩
theorem cutR_bytes (r : Rd) : ∀ o ∈ (cutR r).offers, o.bytes.size ≤ 20 := fun o ho => by
  unfold cutR at ho
  simp only [List.mem_map] at ho
  obtain ⟨x, _, rfl⟩ := ho
  exact cutT_size _ _
theorem cutR_print (r : Rd) (hg : goodR (cutR r) = true) : (printR (cutR r)).length ≤ 2000 := by
  have h := print_len hg 20 (cutR_bytes r)
  have h1 : (cutR r).opens.length ≤ 4 := by unfold cutR; simp only [List.length_take]; omega
  have h2 : (cutR r).offers.length ≤ 6 := by unfold cutR; simp only [List.length_take, List.length_map]; omega
  have h3 : (cutR r).reports.length ≤ 8 := by unfold cutR; simp only [List.length_take]; omega
  have : (23 + 4 * 20) * (cutR r).offers.length ≤ (23 + 4 * 20) * 6 := Nat.mul_le_mul_left _ h2
  omega

structure Mk (B b : Nat) (w : World) (h : Hd) (r : Rd) : Prop where
  blk : Blk w b 59 (rC h r).toArray
  rin : RIn B w h r
section
variable {B b q : Nat} {w w' w7 : World} {h h' : Hd} {r r' : Rd} {t : TypeId} {k n : Nat} {v0 : Value} {xs : List Value}
theorem Mk.later (m : Mk B b w h r) (hb : Below w.heap.size w w') : Mk B b w' h r := ⟨m.blk.later hb, m.rin.later hb⟩
theorem Mk.grow (m : Mk B b w h r) (ho : ORow t k B w v0 n xs) (ht : t ≠ 59) (g : w.grownBy w7 v0.ownBlock) (hn : RIn B w7 h' r') (j : Nat) (x : Value) (hx : (rC h r).set j x = rC h' r') :
    Mk B b (w7.setCell ⟨b, j, none⟩ x) h' r' := by
  have k7 : Blk w7 b 59 (rC h r).toArray := m.blk.grown g (fun e => orow_off ho m.blk ht e.symm)
  have k8 := k7.set_ j x
  rw [List.setIfInBounds_toArray, hx] at k8
  refine ⟨k8, hn.same fun g2 hg2 => Below.heap_setCell w7 ⟨b, j, none⟩ x g2 fun e => ?_⟩
  simp only at e
  subst e
  exact hn.off k7 (by decide) (by decide) (by decide) hg2
theorem Mk.put (m : Mk B b w h r) (j : Nat) (x : Value) (hn : RIn B w h' r') (hx : (rC h r).set j x = rC h' r') : Mk B b (w.setCell ⟨b, j, none⟩ x) h' r' := by
  have k8 := m.blk.set_ j x
  rw [List.setIfInBounds_toArray, hx] at k8
  refine ⟨k8, hn.same fun g2 hg2 => Below.heap_setCell w ⟨b, j, none⟩ x g2 fun e => ?_⟩
  simp only at e
  subst e
  exact hn.off m.blk (by decide) (by decide) (by decide) hg2
theorem Blk.aside {t' : TypeId} {cs : Array Value} (k0 : Blk w q t' cs) (ho : ORow t k B w v0 n xs) (ht : t ≠ t') (g : w.grownBy w7 v0.ownBlock) (hq : q ≠ b) (j : Nat) (x : Value) : Blk (w7.setCell ⟨b, j, none⟩ x) q t' cs :=
  Blk.far (p := ⟨b, j, none⟩) (k0.grown g (fun e => orow_off ho k0 ht e.symm)) hq x
theorem below_grow {W : World} {A : Nat} (hb : Below A W w) (ho : ORow t k B w v0 n xs) (g : w.grownBy w7 v0.ownBlock) (hA : A ≤ B) (hs : A ≤ w.heap.size) (hq : A ≤ b) (j : Nat) (x : Value) : Below A W (w7.setCell ⟨b, j, none⟩ x) :=
  (hb.grown g hs (fun j hj => Nat.le_trans hA (World.ownsRow.lt ho j hj).1)).setCell (p := ⟨b, j, none⟩) hq x
theorem RIn.openG (i : RIn B w h r) {n : Int} {ao' : Option Addr} {cap' m : Nat} (hm : r.opens.length = m) (hg : w.grownBy w' (Value.slice h.oa m h.oc).ownBlock) (hr : ORow 3 1 B w' (.slice ao' (m + 1) cap') (m + 1) (icells r.opens ++ [.int .i64 n])) :
    RIn B w' { h with oa := ao', oc := cap' } { r with opens := r.opens ++ [n] } := by
  subst hm
  refine ⟨?_, ?_, ?_⟩
  · have e1 : (r.opens ++ [n]).length = r.opens.length + 1 := by simp
    have e2 : icells (r.opens ++ [n]) = icells r.opens ++ [.int .i64 n] := by simp [icells]
    simp only [e1, e2]
    exact hr
  · exact orow_same i.fs fun g hgg => hg.block g (World.ownsRow.lt i.fs g hgg).2 fun e => orow_ne i.fs i.os (by decide) hgg e.symm
  · exact orow_same i.ps fun g hgg => hg.block g (World.ownsRow.lt i.ps g hgg).2 fun e => orow_ne i.ps i.os (by decide) hgg e.symm
theorem RIn.offerG (i : RIn B w h r) {o : Off} {ao' : Option Addr} {cap' m : Nat} (hm : r.offers.length = m) (hg : w.grownBy w' (Value.slice h.fa m h.fc).ownBlock) (hr : ORow 93 3 B w' (.slice ao' (m + 1) cap') (m + 1) (r.offers.flatMap ocells ++ ocells o)) :
    RIn B w' { h with fa := ao', fc := cap' } { r with offers := r.offers ++ [o] } := by
  subst hm
  refine ⟨?_, ?_, ?_⟩
  · exact orow_same i.os fun g hgg => hg.block g (World.ownsRow.lt i.os g hgg).2 fun e => orow_ne i.os i.fs (by decide) hgg e.symm
  · have e1 : (r.offers ++ [o]).length = r.offers.length + 1 := by simp
    have e2 : (r.offers ++ [o]).flatMap ocells = r.offers.flatMap ocells ++ ocells o := by simp
    simp only [e1, e2]
    exact hr
  · exact orow_same i.ps fun g hgg => hg.block g (World.ownsRow.lt i.ps g hgg).2 fun e => orow_ne i.ps i.fs (by decide) hgg e.symm
theorem RIn.reportG (i : RIn B w h r) {o : Rep} {ao' : Option Addr} {cap' m : Nat} (hm : r.reports.length = m) (hg : w.grownBy w' (Value.slice h.pa m h.pc).ownBlock) (hr : ORow 95 4 B w' (.slice ao' (m + 1) cap') (m + 1) (r.reports.flatMap pcells ++ pcells o)) :
    RIn B w' { h with pa := ao', pc := cap' } { r with reports := r.reports ++ [o] } := by
  subst hm
  refine ⟨?_, ?_, ?_⟩
  · exact orow_same i.os fun g hgg => hg.block g (World.ownsRow.lt i.os g hgg).2 fun e => orow_ne i.os i.ps (by decide) hgg e.symm
  · exact orow_same i.fs fun g hgg => hg.block g (World.ownsRow.lt i.fs g hgg).2 fun e => orow_ne i.fs i.ps (by decide) hgg e.symm
  · have e1 : (r.reports ++ [o]).length = r.reports.length + 1 := by simp
    have e2 : (r.reports ++ [o]).flatMap pcells = r.reports.flatMap pcells ++ pcells o := by simp
    simp only [e1, e2]
    exact hr
end
end Go.Proofs.YtmnkekepccdlcaaGreatDoor
