/-
  A region whose order Go leaves open, met once, in an order of one's own: reads first, each call and each making of a slice when nothing else may come up.
  Conditions: none; over any program.
-/
import Derived.Test.YtmnkekepccdlcaaGreatDoorWgA
import Derived.Deep.RegionHeld3
import Derived.Test.YtmnkekepccdlcaaGreatDoorWorldQ
import Derived.Lib.OthersKept
import Derived.BigQuiet
import Derived.Test.YtmnkekepccdlcaaGreatDoorWgF
namespace Go.Proofs.YtmnkekepccdlcaaGreatDoor
set_option linter.unusedVariables false
set_option linter.unusedSimpArgs false
open Go.RowKit

/-- What is met alone: a call, a slice that is made. -/
def isLone (o : Oper) : Bool := match o.op with
  | .call c => (match c.callee with | .value _ => true | .builtin .append => true | _ => false)
  | .buildSlice _ _ _ => true
  | _ => false
section
variable {P : Program} {ops : Array Oper} {Q : Exit → Act → World → Prop} {md : Region.Mode} {S : World → Prop}

def wpOrd (P : Program) (ops : Array Oper) (Q : Exit → Act → World → Prop) (S : World → Prop) : List Oper → Act → World → Prop
  | [], a, w => Q .normal a w
  | o :: l, a, w =>
    (∃ v, YieldsIf P ops S o v a ∧ wpOrd P ops Q S l (a.put o.dst v) w) ∨
    (isLone o = true ∧ Region.wanted o (yielded ops a.tmps) = true ∧ o.wp P a w (fun a' w' => S w' ∧ wpOrd P ops Q S l a' w') Q)
def ordB (md : Region.Mode) (ops : Array Oper) : List Nat → Array Bool → Bool
  | [], listed => (Region.ready md ops listed).isEmpty
  | k :: r, listed => match ops[k]? with
    | none => false
    | some o => (Region.ready md ops listed).contains k && Region.free md ops listed k && (!isLone o || Region.ready md ops listed == [k]) && ordB md ops r (listed.setIfInBounds k true)

theorem wpAnyH_of_ord (hs : Region.noSelect ops = true) (hQ : ∀ c a t v w, Q (.panic c) (Act.put a t v) w → Q (.panic c) a w) :
    ∀ (r : List Nat) (l : List Oper) (listed : Array Bool) (a : Act) (w : World), l.map some = r.map (fun k => ops[k]?) → ordB md ops r listed = true → S w → wpOrd P ops Q S l a w →
      wpAnyH P md ops Q S r.length listed a w
  | [], l, listed, a, w, hl, hB, _, h => by
    obtain rfl : l = [] := by simpa using hl
    exact ⟨by simpa [ordB] using hB, h⟩
  | k :: r, [], _, _, _, hl, _, _, _ => by simp at hl
  | k :: r, o :: l, listed, a, w, hl, hB, hS, h => by
    simp only [List.map_cons, List.cons.injEq] at hl
    obtain ⟨h0, hl'⟩ := hl
    have h0 := h0.symm
    unfold ordB at hB
    rw [h0] at hB
    simp only [Bool.and_eq_true] at hB
    obtain ⟨⟨⟨hr, hf⟩, hc⟩, hB'⟩ := hB
    rcases h with ⟨v, hy, h⟩ | ⟨hg, hw, h⟩
    · exact wpAnyH_take h0 hs hf hr (fun c a w => hQ c a o.dst v w) hy hS (wpAnyH_of_ord hs hQ r l _ _ w hl' hB' hS h)
    · rw [hg] at hc
      have hr' : Region.ready md ops listed = [k] := by simpa using hc
      refine wpAnyH_all hr' (by simp) (fun i hi => ?_)
      obtain rfl : i = k := by simpa using hi
      unfold wpOp
      rw [h0]
      simp only [hw, if_true]
      exact .inl (Oper.wp_mono (fun a' w' ⟨hS', h'⟩ => ⟨hS', wpAnyH_of_ord hs hQ r l _ a' w' hl' hB' hS' h'⟩) h)

def pickL (r : List Nat) (l : List Oper) : List Oper := r.filterMap fun k => l[k]?
theorem pickL_map {r : List Nat} {l : List Oper} (h : r.all (fun k => decide (k < l.length)) = true) : (pickL r l).map some = r.map (fun k => l.toArray[k]?) := by
  induction r with
  | nil => rfl
  | cons k r ih =>
    simp only [List.all_cons, Bool.and_eq_true, decide_eq_true_eq] at h
    unfold pickL at ih ⊢
    rw [List.filterMap_cons, List.getElem?_eq_getElem h.1, List.map_cons, List.map_cons, ih h.2]
    simp [List.getElem?_eq_getElem h.1]
theorem wp_region_ord {id : Nat} {a : Act} {w : World} {l : List Oper} (r : List Nat) (hm : P.follows .mixedOrders = true) (hs : Region.noSelect l.toArray = true) (hlen : r.length = l.length) (hall : r.all (fun k => decide (k < l.length)) = true)
    (hB : ordB .any l.toArray r (Array.replicate l.toArray.size false) = true) (hS : S w.drew) (h : wpOrd P l.toArray (NoPanic Q) S (pickL r l) a w.drew) : (Code.region id l.toArray true).wp P Q a w := by
  refine wp_region_noPanic (wp_region_held (S := S) hm ?_)
  have := wpAnyH_of_ord (md := .any) hs (fun _ _ _ _ _ h => h) r _ _ a w.drew (pickL_map hall) hB hS h
  rw [hlen] at this
  simpa using this

variable {o : Oper} {l : List Oper} {a : Act} {w : World}
theorem ord_skip (hw : Region.wanted o (yielded ops a.tmps) = false) (h : wpOrd P ops Q S l (a.put o.dst undef) w) : wpOrd P ops Q S (o :: l) a w :=
  .inl ⟨undef, .inr ⟨hw, rfl⟩, h⟩
theorem ord_take {v : Value} (hg : isLone o = false) (hw : Region.wanted o (yielded ops a.tmps) = true) (hy : ∀ w, S w → (execOp a.eval o).run P w = .ok (.value v) w) (h : wpOrd P ops Q S l (a.put o.dst v) w) : wpOrd P ops Q S (o :: l) a w :=
  .inl ⟨v, .inl ⟨hw, hy⟩, h⟩
theorem ord_lone (hg : isLone o = true) (hw : Region.wanted o (yielded ops a.tmps) = true)
    (h : ∀ K : Act → World → Prop, Shut (∀ a' w', S w' → (S w' → wpOrd P ops Q S l a' w') → K a' w') → o.wp P a w K Q) : wpOrd P ops Q S (o :: l) a w :=
  .inr ⟨hg, hw, h _ fun _ _ hS hh => ⟨hS, hh hS⟩⟩
theorem ord_done (h : Q .normal a w) : wpOrd P ops (NoPanic Q) S [] a w := h
end
end Go.Proofs.YtmnkekepccdlcaaGreatDoor

namespace Go.Proofs.YtmnkekepccdlcaaGreatDoor
set_option linter.unusedVariables false
set_option linter.unusedSimpArgs false
open Go.RowKit

/-- What writing into the builder in block b leaves alone. -/
structure Lk (b : Nat) (w w' : World) : Prop where
  bel : Below b w w'
  oth : Lib.OthersKept 5 (some b) w w'
section
variable {b : Nat} {a w w' : World}
theorem Lk.refl (b : Nat) (w : World) : Lk b w w := ⟨Below.refl _ _, Lib.OthersKept.refl _ _ _⟩
theorem Lk.trans (h : Lk b a w) (k : Lk b w w') : Lk b a w' := ⟨h.bel.trans k.bel, h.oth.trans k.oth⟩
theorem Lk.later (h : Below w.heap.size w w') (hb : b ≤ w.heap.size) : Lk b w w' := ⟨h.mono hb, fun k o e _ _ => (h.block k (Array.getElem?_eq_some_iff.1 e).1).trans e⟩
theorem Blk.lk {q : Nat} {t : TypeId} {cs : Array Value} (h : Blk w q t cs) (k : Lk b w w') (hq : q ≠ b) (ht : t ≠ 5) : Blk w' q t cs :=
  k.oth q _ h (fun e => hq (Option.some.inj e)) (fun c fz e => by cases e; exact ht rfl)
end
theorem bStrL (b : Nat) (l : List UInt8) (s : ByteArray) (w : World) (h : Bld b b l w) (hl : l.length + s.size ≤ 1000000) (hB : b ≤ w.heap.size) :
    Calls Tryz.prog 49 #[.pointer (some ⟨b, 0, none⟩), .string s] w fun e w' => e = .returned (.tuple #[.int .i64 s.size, .nilIface]) ∧ Bld b b (l ++ s.data.toList) w' ∧ Lk b w w' := by
  refine (Tryz.Builder_WriteString_k b b (Lib.byteCells l) s w h (by rw [Lib.byteCells_length]; omega) hB).mono ?_
  rintro e w' ⟨rfl, h1, h2, h3⟩
  refine ⟨rfl, .inr ?_, h2, h3⟩
  rw [Lib.strCells_eq, ← Lib.byteCells_append] at h1
  exact h1
theorem bByteL (b : Nat) (l : List UInt8) (w : World) (h : Bld b b l w) (hl : l.length ≤ 1000000) (hB : b ≤ w.heap.size) :
    Calls Tryz.prog 50 #[.pointer (some ⟨b, 0, none⟩), .int .u8 10] w fun e w' => e = .returned .nilIface ∧ Bld b b (l ++ [10]) w' ∧ Lk b w w' := by
  have := Tryz.Builder_WriteByte_k b b (Lib.byteCells l) 10 w h (by rw [Lib.byteCells_length]; omega) hB
  refine this.mono ?_
  rintro e w' ⟨rfl, h1, h2, h3⟩
  refine ⟨rfl, .inr ?_, h2, h3⟩
  have e1 : Lib.byteCells (l ++ [10]) = Lib.byteCells l ++ [.int .u8 10] := by rw [Lib.byteCells_append]; rfl
  rw [e1]
  exact h1
theorem bld_lt {b : Nat} {l : List UInt8} {w : World} (h : Bld b b l w) : b < w.heap.size := by
  rcases h with ⟨_, _, h, _⟩ | ⟨_, _, h, _⟩ <;> exact (Array.getElem?_eq_some_iff.1 h).1

set_option maxHeartbeats 1000000 in
theorem xLine (ws : List (List UInt8)) (g cap b : Nat) (acc : List UInt8) (w : World) (hk : WS w g ws) (hg : g < w.heap.size) (hc : ws.length ≤ cap) (h1 : ws.length ≤ 1000) (hb : Bld b b acc w) (hl : (acc ++ lineB ws).length ≤ 900000) :
    Calls Tryz.prog 99 #[.pointer (some ⟨b, 0, none⟩), .slice (some ⟨g, 0, none⟩) ws.length cap] w fun e w' => e = .returned (.tuple #[]) ∧ Bld b b (acc ++ lineB ws) w' ∧ Lk b w w' := by
  have hbs : b ≤ w.heap.size := Nat.le_of_lt (bld_lt hb)
  unfold lineB at hl ⊢
  simp only [List.length_append, List.length_cons, List.length_nil] at hl
  have F := Lib.hid (wJoin ws g cap w hk hg hc h1 (by omega))
  have HB := Lib.hid hb
  clear hk hb
  go_enter Tryz.func99, Tryz.ntmps99
  go_wp2_with fail
  refine F.out.mono ?_; rintro e w1 ⟨rfl, b1⟩
  have t1 := Lk.later b1 hbs
  go_wp2_with fail
  refine (bStrL b acc ⟨(joinL ws).toArray⟩ w1 (bld_later HB.out b1) (by show _ + (joinL ws).length ≤ _; omega) (Nat.le_trans hbs b1.size)).mono ?_; rintro e w2 ⟨rfl, k2, t2⟩
  go_wp2_with fail
  refine (bByteL b _ w2 k2 (by rw [List.length_append]; show _ + (joinL ws).length ≤ _; omega) (Nat.le_of_lt (bld_lt k2))).mono ?_; rintro e w3 ⟨rfl, k3, t3⟩
  go_wp2_with fail
  go_end0
  refine ⟨rfl, ?_, (t1.trans t2).trans t3⟩
  rw [← List.append_assoc]
  exact k3
end Go.Proofs.YtmnkekepccdlcaaGreatDoor

namespace Go.Proofs.YtmnkekepccdlcaaGreatDoor
set_option linter.unusedVariables false
set_option linter.unusedSimpArgs false
open Go.RowKit

theorem good_parts {r : Rd} (hg : goodR r = true) : (0 ≤ r.ticks ∧ r.ticks ≤ 1000000000000) ∧ (0 ≤ r.drain ∧ r.drain ≤ 1000000000001) ∧ (∀ x ∈ r.opens, 0 ≤ x ∧ x ≤ 63) ∧ (∀ o ∈ r.offers, (0 ≤ o.id ∧ o.id ≤ 4095) ∧ o.bytes.size ≤ 256) ∧ (∀ p ∈ r.reports, (0 ≤ p.id ∧ p.id ≤ 4095) ∧ (0 ≤ p.accept ∧ p.accept ≤ 4096)) := by
  unfold goodR at hg
  simp only [Bool.and_eq_true, List.all_eq_true] at hg
  obtain ⟨⟨⟨⟨g1, g2⟩, g3⟩, g4⟩, g5⟩ := hg
  have hT : ∀ {n a b : Int}, inT n a b = true → a ≤ n ∧ n ≤ b := by
    intro n a b h
    unfold inT at h
    simpa using h
  refine ⟨hT g1, hT g2, fun x hx => hT (g3 x hx), fun o ho => ?_, fun p hp => ?_⟩
  · have := g4 o ho
    unfold goodO at this
    simp only [Bool.and_eq_true, decide_eq_true_eq] at this
    exact ⟨hT this.1, this.2⟩
  · have := g5 p hp
    unfold goodP at this
    simp only [Bool.and_eq_true] at this
    exact ⟨hT this.1.1.1, hT this.1.2⟩
theorem app_le {a b t : List UInt8} (h : a ++ b = t) (ht : t.length ≤ 900000) : a.length ≤ 900000 := by
  have := congrArg List.length h
  rw [List.length_append] at this
  omega

/-- A line's call, with what is still to be written. -/
theorem xLineT (ws : List (List UInt8)) (cs : Array Value) (hcs : cs = (ws.map fun l => Value.string ⟨l.toArray⟩).toArray) (cap b : Nat) (cur rest TOT : List UInt8) (w1 w4 : World) (hL : Lk b w1 w4) (hB : Bld b b cur w4) (hI : cur ++ (lineB ws ++ rest) = TOT) (hl : TOT.length ≤ 900000) (hc : ws.length ≤ cap) (h1 : ws.length ≤ 1000) :
    Calls Tryz.prog 99 #[.pointer (some ⟨b, 0, none⟩), .slice (some ⟨w4.heap.size, 0, none⟩) ws.length cap] (w4.alloc (.cells cs 9)) fun e w5 => e = .returned (.tuple #[]) ∧ Hid (Bld b b (cur ++ lineB ws) w5) ∧ Hid ((cur ++ lineB ws) ++ rest = TOT) ∧ Hid (Lk b w1 w5) := by
  subst hcs
  have hI2 : (cur ++ lineB ws) ++ rest = TOT := by rw [List.append_assoc]; exact hI
  refine (xLine ws w4.heap.size cap b cur _ (ws_of (Blk.new w4 9 _)) (by simp) hc h1 (bld_later hB ((Below.refl _ _).alloc (Nat.le_refl _) _)) (app_le hI2 hl)).mono ?_
  rintro e w5 ⟨rfl, B5, t5⟩
  exact ⟨rfl, Lib.hid B5, Lib.hid hI2, Lib.hid ((hL.trans (Lk.later ((Below.refl _ _).alloc (Nat.le_refl _) _) (Nat.le_of_lt (bld_lt hB)))).trans t5)⟩
theorem opens_drop {l : List Int} {k : Nat} (h : k < l.length) : opensB (l.drop k) = lineB [kOpen, Lib.itoa l[k]] ++ opensB (l.drop (k + 1)) := by rw [List.drop_eq_getElem_cons h]; rfl
theorem offers_drop {l : List Off} {k : Nat} (h : k < l.length) : offersB (l.drop k) = lineB (offW l[k]) ++ offersB (l.drop (k + 1)) := by rw [List.drop_eq_getElem_cons h]; rfl
theorem reports_drop {l : List Rep} {k : Nat} (h : k < l.length) : reportsB (l.drop k) = lineB (repW l[k]) ++ reportsB (l.drop (k + 1)) := by rw [List.drop_eq_getElem_cons h]; rfl

set_option maxHeartbeats 16000000 in
set_option maxRecDepth 100000 in
theorem xLinesW (h : Hd) (r : Rd) (b : Nat) (acc : List UInt8) (w0 w : World) (ha : RAt w0 h r) (hg : goodR r = true) (hs : Sml 1000000 [r]) (he : EnvW w0) (hb0 : Below w0.heap.size w0 w) (hbb : w0.heap.size ≤ b) (hbd : Bld b b acc w) (hl : (acc ++ printR r).length ≤ 900000) :
    Calls Tryz.prog 62 #[.pointer (some ⟨b, 0, none⟩), .agg (rC h r).toArray] w fun e w' => e = .returned (.tuple #[]) ∧ Bld b b (acc ++ printR r) w' ∧ Below b w w' := by
  obtain ⟨⟨p1, p2⟩, ⟨p3, p4⟩, p5, p6, p7⟩ := good_parts hg
  have hsr := hs.2 r (by simp)
  obtain ⟨s1, s2, s3⟩ := hsr
  have hbs : b < w.heap.size := bld_lt hbd
  have HPO : printR r = lineB [kTick, textT r.ticks] ++ (opensB r.opens ++ (offersB r.offers ++ (reportsB r.reports ++ (drainB r.drain ++ abortB r.abort)))) := by unfold printR; simp only [List.append_assoc]
  rw [HPO] at hl ⊢
  clear HPO hg hs
  obtain ⟨TOT, hT⟩ : ∃ T, acc ++ (lineB [kTick, textT r.ticks] ++ (opensB r.opens ++ (offersB r.offers ++ (reportsB r.reports ++ (drainB r.drain ++ abortB r.abort))))) = T := ⟨_, rfl⟩
  rw [hT] at hl ⊢
  have HT := Lib.hid hT
  clear hT
  obtain ⟨w1, hw1⟩ : ∃ w1, w.alloc (.cells (rC h r).toArray 59) = w1 := ⟨_, rfl⟩
  have k1 : Blk w1 w.heap.size 59 (rC h r).toArray := by rw [← hw1]; exact Blk.new _ _ _
  have b1 : Below w.heap.size w w1 := by rw [← hw1]; exact (Below.refl _ _).alloc (Nat.le_refl _) _
  have t1 := Lk.later b1 (Nat.le_of_lt hbs)
  have z1 := hb0.up b1
  have B1 := bld_later hbd b1
  have hqb : w.heap.size ≠ b := by omega
  have HW1 := Lib.hid hw1
  unfold rC at k1 HW1 ⊢
  clear hw1 hb0 hbd
  -- what is read in every later world
  have RD : Hid (∀ w', Lk b w1 w' → Below w0.heap.size w0 w') := Lib.hid fun w' hk => z1.trans (hk.bel.mono hbb)
  have HE : Hid (∀ w', Lk b w1 w' → Pow w') := Lib.hid fun w' hk => (he.later (RD.out w' hk)).pow
  have HA := Lib.hid ha
  have KK : Hid (∀ w', Lk b w1 w' → Blk w' w.heap.size 59 #[.int .i64 r.ticks, .slice h.oa r.opens.length h.oc, .slice h.fa r.offers.length h.fc, .slice h.pa r.reports.length h.pc, .int .i64 r.drain, .bool r.abort]) := Lib.hid fun w' hk => k1.lk hk hqb (by decide)
  have TX := Lib.hid (tText r.ticks w1 (by unfold i64; omega) (HE.out _ (Lk.refl _ _)))
  have T1 := Lib.hid t1
  have HP5 := Lib.hid p5
  have HP6 := Lib.hid p6
  have HP7 := Lib.hid p7
  have BB1 := Lib.hid B1
  clear ha he z1 t1 p5 p6 p7 B1 b1
  generalize hq : w.heap.size = q at *
  have HQ := Lib.hid hq
  clear hq
  have d0 := k1.at6
  have hr := Below.refl w1.heap.size w1
  clear k1
  obtain ⟨R3, hR3⟩ : ∃ R, drainB r.drain ++ abortB r.abort = R := ⟨_, rfl⟩
  obtain ⟨R2, hR2⟩ : ∃ R, reportsB r.reports ++ R3 = R := ⟨_, rfl⟩
  obtain ⟨R1, hR1⟩ : ∃ R, offersB r.offers ++ R2 = R := ⟨_, rfl⟩
  rw [hR3, hR2, hR1] at HT
  have HR1 := Lib.hid hR1
  have HR2 := Lib.hid hR2
  have HR3 := Lib.hid hR3
  clear hR1 hR2 hR3
  go_enter Tryz.func62, Tryz.ntmps62
  go_upto_region 1 with fail
  rw [HW1.out, HQ.out]
  go_wp2_with fail
  refine TX.out.mono ?_; rintro e w2 ⟨rfl, b2⟩
  have B2 := bld_later BB1.out b2
  have t2 := Lk.later (b := b) b2 (Nat.le_of_lt (bld_lt BB1.out))
  clear d0 hr b2
  go_wp2_with fail
  refine (xLineT [kTick, textT r.ticks] _ rfl 2 b acc _ TOT w1 w2 t2 B2 HT.out hl (by simp) (by simp)).mono ?_; rintro e w3 ⟨rfl, B3, I3, L3⟩
  clear t2 B2
  have d0 := (KK.out w3 L3.out).at6
  have hr := Below.refl w3.heap.size w3
  have HT3 : Hid ((acc ++ lineB [kTick, textT r.ticks]) ++ (opensB (r.opens.drop 0) ++ R1) = TOT) := Lib.hid (by rw [List.drop_zero]; exact I3.out)
  clear I3
  go_wp2_with fail
  go_loopw [22] (fun iv wr => ∃ (k : Nat) (cur : List UInt8), iv = .int .i64 k ∧ k ≤ r.opens.length ∧ Hid (Bld b b cur wr) ∧ Hid (cur ++ (opensB (r.opens.drop k) ++ R1) = TOT) ∧ Hid (Lk b w1 wr)) (fun iv _ => r.opens.length - (intOf iv).toNat)
  case atStart => exact ⟨0, _, rfl, Nat.zero_le _, B3, HT3, L3⟩
  case round =>
    obtain ⟨k, cur, rfl, hk, hB, hI, hL⟩ := hrel
    clear d0 hr HT3 L3 B3
    have e0 : (0 : Int) ≤ (k : Int) := by omega
    by_cases hlt : k < r.opens.length
    · have e1 : (k : Int) < (r.opens.length : Int) := by omega
      have s1 : IntKind.i64.wrap ((k : Int) + 1) = ((k + 1 : Nat) : Int) := by rw [IntWalk.i64_in _ (by omega)]; omega
      obtain ⟨g, off, eg, dd⟩ := HA.out.os k hlt
      have d := dd wr (RD.out wr hL.out)
      have hx := HP5.out _ (List.getElem_mem hlt)
      have hI2 := hI.out
      rw [opens_drop hlt, List.append_assoc] at hI2
      generalize r.opens[k] = x at *
      have F := Lib.hid (wItoa x wr (by unfold i64; omega) (HE.out wr hL.out))
      have HI2 := Lib.hid hI2
      clear hI hI2 dd
      rw [eg]
      go_wp2_with fail
      refine F.out.mono ?_; rintro e w4 ⟨rfl, b4⟩
      have B4 := bld_later hB.out b4
      have L4 := hL.out.trans (Lk.later b4 (Nat.le_of_lt (bld_lt hB.out)))
      clear b4 d
      go_wp2_with fail
      refine (xLineT [kOpen, Lib.itoa x] _ rfl 2 b cur _ TOT w1 w4 L4 B4 HI2.out hl (by simp) (by simp)).mono ?_; rintro e w5 ⟨rfl, B5, I5, L5⟩
      clear B4 L4
      go_wp2_with fail
      go_roundw
      case rel => exact ⟨k + 1, _, by go_num, by omega, B5, I5, L5⟩
      case measure => simp [intOf]; omega
    · obtain rfl : k = r.opens.length := by omega
      have e1 : ¬ (r.opens.length : Int) < (r.opens.length : Int) := by omega
      have HT4 : Hid (cur ++ (offersB (r.offers.drop 0) ++ R2) = TOT) := Lib.hid (by
        have h1 := hI.out
        rw [List.drop_length] at h1
        rw [List.drop_zero, HR1.out]
        exact h1)
      have d0 := (KK.out wr hL.out).at6
      have hr := Below.refl wr.heap.size wr
      clear hI
      go_wp2_with fail
      go_loopw [35] (fun iv wr => ∃ (k : Nat) (cur : List UInt8), iv = .int .i64 k ∧ k ≤ r.offers.length ∧ Hid (Bld b b cur wr) ∧ Hid (cur ++ (offersB (r.offers.drop k) ++ R2) = TOT) ∧ Hid (Lk b w1 wr)) (fun iv _ => r.offers.length - (intOf iv).toNat)
      case atStart => exact ⟨0, _, rfl, Nat.zero_le _, hB, HT4, hL⟩
      case round =>
        clear d0 hr HT4 hL hB e1 hk hlt e0
        obtain ⟨k, cur, rfl, hk, hB, hI, hL⟩ := hrel
        have e0 : (0 : Int) ≤ (k : Int) := by omega
        by_cases hlt : k < r.offers.length
        · have e1 : (k : Int) < (r.offers.length : Int) := by omega
          have s1 : IntKind.i64.wrap ((k : Int) + 1) = ((k + 1 : Nat) : Int) := by rw [IntWalk.i64_in _ (by omega)]; omega
          obtain ⟨g, off, eg, dd⟩ := HA.out.fs k hlt
          obtain ⟨da, db, dc⟩ := dd wr (RD.out wr hL.out)
          have hx := HP6.out _ (List.getElem_mem hlt)
          have hI2 := hI.out
          rw [offers_drop hlt, List.append_assoc] at hI2
          generalize r.offers[k] = x at *
          obtain ⟨w4, hw4⟩ : ∃ w4, wr.alloc (.cells #[.int .i64 x.id, .string x.bytes, .bool x.eof] 93) = w4 := ⟨_, rfl⟩
          have k4 : Blk w4 wr.heap.size 93 #[.int .i64 x.id, .string x.bytes, .bool x.eof] := by rw [← hw4]; exact Blk.new _ _ _
          have b4 : Below wr.heap.size wr w4 := by rw [← hw4]; exact (Below.refl _ _).alloc (Nat.le_refl _) _
          have B4 := Lib.hid (bld_later hB.out b4)
          have L4 := Lib.hid (hL.out.trans (Lk.later b4 (Nat.le_of_lt (bld_lt hB.out))))
          obtain ⟨ix, bx, fx⟩ := x
          simp only at da db dc hx k4 hw4 hI2
          have FI : Hid (∀ w', Below w4.heap.size w4 w' → Calls Tryz.prog 75 #[.int .i64 ix] w' fun e w'' => e = .returned (.string ⟨(Lib.itoa ix).toArray⟩) ∧ Below w'.heap.size w' w'') := Lib.hid fun w' h => wItoa ix w' (by unfold i64; omega) (HE.out w' (L4.out.trans (Lk.later h (Nat.le_of_lt (bld_lt B4.out)))))
          have FQ : Hid (∀ w', Calls Tryz.prog 77 #[.string bx] w' fun e w'' => e = .returned (.string ⟨(quoteT bx.data.toList).toArray⟩) ∧ Below w'.heap.size w' w'') := Lib.hid fun w' => qQuote bx w' (Nat.le_trans hx.2 (by decide))
          have HI2 := Lib.hid hI2
          have HW4 := Lib.hid hw4
          clear hI hI2 dd hw4 hx b4
          have hqb4 : wr.heap.size ≠ b := by have := bld_lt hB.out; omega
          obtain ⟨q4, hq4⟩ : ∃ q, wr.heap.size = q := ⟨_, rfl⟩
          have HQ4 := Lib.hid hq4
          rw [hq4] at k4 hqb4
          clear hq4
          have d4 := k4.at3
          have hr := Below.refl w4.heap.size w4
          have hb4 : b ≤ w4.heap.size := Nat.le_of_lt (bld_lt B4.out)
          have MK : Hid (∀ w', Lk b w4 w' → Lk b w4 w' ∧ (w'.cell? ⟨q4, 0, none⟩ = some (.int .i64 ix) ∧ w'.cell? ⟨q4, 1, none⟩ = some (.string bx))) := Lib.hid fun w' h => ⟨h, ((k4.lk h hqb4 (by decide)).at3 w' (Below.refl _ _)).1, ((k4.lk h hqb4 (by decide)).at3 w' (Below.refl _ _)).2.1⟩
          rw [eg]
          cases fx
          · go_upto_region 10 with fail
            rw [HW4.out, HQ4.out]
            clear da db dc
            go_upto_region 13 with fail
            refine wp_region_ord (S := fun w' => Lk b w4 w' ∧ (w'.cell? ⟨q4, 0, none⟩ = some (.int .i64 ix) ∧ w'.cell? ⟨q4, 1, none⟩ = some (.string bx))) [0, 1, 2, 3, 5, 6, 4, 7, 8, 9] (by kernel_rfl) (by kernel_rfl) (by kernel_rfl) (by kernel_rfl) (by kernel_rfl) (MK.out _ (Lk.later ((Below.refl _ _).drew) hb4)) ?_
            simp only [pickL, List.filterMap_cons, List.filterMap_nil, List.getElem?_cons_zero, List.getElem?_cons_succ]
            repeat (refine ord_take (v := ?_) (by rfl) (by rfl) ?_ ?_; rotate_left; (focus (intro w hSw; (try dsimp only at hSw); go_simp; (try with_reducible rfl))); simp only [Act.put, List.setIfInBounds_toArray, List.set_cons_zero, List.set_cons_succ])
            refine ord_lone (by rfl) (by rfl) (fun K hK => ?_)
            try go_simp
            go_at_call 75
            refine (FI.out _ ((Below.refl _ _).drew)).mono ?_; rintro e w5 ⟨rfl, b5⟩
            have l5 : Lk b w4 w5 := Lk.later (((Below.refl _ _).drew).up b5) hb4
            refine hK.out _ _ (MK.out _ l5) (fun _ => ?_)
            clear hK
            try simp only [Act.put, List.setIfInBounds_toArray, List.set_cons_zero, List.set_cons_succ]
            refine ord_lone (by rfl) (by rfl) (fun K hK => ?_)
            try go_simp
            go_at_call 77
            refine (FQ.out _).mono ?_; rintro e w6 ⟨rfl, b6⟩
            have l6 : Lk b w4 w6 := l5.trans (Lk.later b6 (Nat.le_trans hb4 l5.bel.size))
            refine hK.out _ _ (MK.out _ l6) (fun _ => ?_)
            clear hK
            try simp only [Act.put, List.setIfInBounds_toArray, List.set_cons_zero, List.set_cons_succ]
            have B6 := bld_later (bld_later B4.out (((Below.refl _ _).drew).up b5)) b6
            have L6 := L4.out.trans l6
            refine ord_lone (by rfl) (by rfl) (fun K hK => ?_)
            try go_simp
            refine hK.out _ _ (MK.out _ (l6.trans (Lk.later ((Below.refl _ _).alloc (Nat.le_refl _) _) (Nat.le_trans hb4 l6.bel.size)))) (fun _ => ?_)
            clear hK
            try simp only [Act.put, List.setIfInBounds_toArray, List.set_cons_zero, List.set_cons_succ]
            refine ord_lone (by rfl) (by rfl) (fun K hK => ?_)
            try go_simp
            refine (xLineT [kOffer, Lib.itoa ix, quoteT bx.data.toList] _ rfl 3 b cur _ TOT w4 w6 l6 B6 HI2.out hl (by simp) (by simp)).mono ?_; rintro e w7 ⟨rfl, B7, I7, l7⟩
            have L7 := Lib.hid (L4.out.trans l7.out)
            refine hK.out _ _ (MK.out _ l7.out) (fun _ => ?_)
            clear hK l5 b5 l6 b6 B6 L6 d4 hr l7
            refine ord_done ?_
            go_wp2_with fail
            go_roundw
            case rel => exact ⟨k + 1, _, by go_num, by omega, B7, I7, L7⟩
            case measure => simp [intOf]; omega
          · go_upto_region 10 with fail
            rw [HW4.out, HQ4.out]
            clear da db dc
            go_upto_region 13 with fail
            refine wp_region_ord (S := fun w' => Lk b w4 w' ∧ (w'.cell? ⟨q4, 0, none⟩ = some (.int .i64 ix) ∧ w'.cell? ⟨q4, 1, none⟩ = some (.string bx))) [0, 1, 2, 3, 5, 6, 4, 7, 8, 9] (by kernel_rfl) (by kernel_rfl) (by kernel_rfl) (by kernel_rfl) (by kernel_rfl) (MK.out _ (Lk.later ((Below.refl _ _).drew) hb4)) ?_
            simp only [pickL, List.filterMap_cons, List.filterMap_nil, List.getElem?_cons_zero, List.getElem?_cons_succ]
            repeat (refine ord_take (v := ?_) (by rfl) (by rfl) ?_ ?_; rotate_left; (focus (intro w hSw; (try dsimp only at hSw); go_simp; (try with_reducible rfl))); simp only [Act.put, List.setIfInBounds_toArray, List.set_cons_zero, List.set_cons_succ])
            refine ord_lone (by rfl) (by rfl) (fun K hK => ?_)
            try go_simp
            go_at_call 75
            refine (FI.out _ ((Below.refl _ _).drew)).mono ?_; rintro e w5 ⟨rfl, b5⟩
            have l5 : Lk b w4 w5 := Lk.later (((Below.refl _ _).drew).up b5) hb4
            refine hK.out _ _ (MK.out _ l5) (fun _ => ?_)
            clear hK
            try simp only [Act.put, List.setIfInBounds_toArray, List.set_cons_zero, List.set_cons_succ]
            refine ord_lone (by rfl) (by rfl) (fun K hK => ?_)
            try go_simp
            go_at_call 77
            refine (FQ.out _).mono ?_; rintro e w6 ⟨rfl, b6⟩
            have l6 : Lk b w4 w6 := l5.trans (Lk.later b6 (Nat.le_trans hb4 l5.bel.size))
            refine hK.out _ _ (MK.out _ l6) (fun _ => ?_)
            clear hK
            try simp only [Act.put, List.setIfInBounds_toArray, List.set_cons_zero, List.set_cons_succ]
            have B6 := bld_later (bld_later B4.out (((Below.refl _ _).drew).up b5)) b6
            have L6 := L4.out.trans l6
            refine ord_lone (by rfl) (by rfl) (fun K hK => ?_)
            try go_simp
            refine hK.out _ _ (MK.out _ (l6.trans (Lk.later ((Below.refl _ _).alloc (Nat.le_refl _) _) (Nat.le_trans hb4 l6.bel.size)))) (fun _ => ?_)
            clear hK
            try simp only [Act.put, List.setIfInBounds_toArray, List.set_cons_zero, List.set_cons_succ]
            refine ord_lone (by rfl) (by rfl) (fun K hK => ?_)
            try go_simp
            refine (xLineT [kClose, Lib.itoa ix, quoteT bx.data.toList] _ rfl 3 b cur _ TOT w4 w6 l6 B6 HI2.out hl (by simp) (by simp)).mono ?_; rintro e w7 ⟨rfl, B7, I7, l7⟩
            have L7 := Lib.hid (L4.out.trans l7.out)
            refine hK.out _ _ (MK.out _ l7.out) (fun _ => ?_)
            clear hK l5 b5 l6 b6 B6 L6 d4 hr l7
            refine ord_done ?_
            go_wp2_with fail
            go_roundw
            case rel => exact ⟨k + 1, _, by go_num, by omega, B7, I7, L7⟩
            case measure => simp [intOf]; omega
        · obtain rfl : k = r.offers.length := by omega
          have e1 : ¬ (r.offers.length : Int) < (r.offers.length : Int) := by omega
          have HT4 : Hid (cur ++ (reportsB (r.reports.drop 0) ++ R3) = TOT) := Lib.hid (by
            have h1 := hI.out
            rw [List.drop_length] at h1
            rw [List.drop_zero, HR2.out]
            exact h1)
          have d0 := (KK.out wr hL.out).at6
          have hr := Below.refl wr.heap.size wr
          clear hI
          go_wp2_with fail
          go_loopw [55] (fun iv wr => ∃ (k : Nat) (cur : List UInt8), iv = .int .i64 k ∧ k ≤ r.reports.length ∧ Hid (Bld b b cur wr) ∧ Hid (cur ++ (reportsB (r.reports.drop k) ++ R3) = TOT) ∧ Hid (Lk b w1 wr)) (fun iv _ => r.reports.length - (intOf iv).toNat)
          case atStart => exact ⟨0, _, rfl, Nat.zero_le _, hB, HT4, hL⟩
          case round =>
            clear d0 hr HT4 hL hB e1 hk hlt e0
            obtain ⟨k, cur, rfl, hk, hB, hI, hL⟩ := hrel
            have e0 : (0 : Int) ≤ (k : Int) := by omega
            by_cases hlt : k < r.reports.length
            · have e1 : (k : Int) < (r.reports.length : Int) := by omega
              have s1 : IntKind.i64.wrap ((k : Int) + 1) = ((k + 1 : Nat) : Int) := by rw [IntWalk.i64_in _ (by omega)]; omega
              obtain ⟨g, off, eg, dd⟩ := HA.out.ps k hlt
              obtain ⟨da, db, dc, de⟩ := dd wr (RD.out wr hL.out)
              have hx := HP7.out _ (List.getElem_mem hlt)
              have hI2 := hI.out
              rw [reports_drop hlt, List.append_assoc] at hI2
              generalize r.reports[k] = x at *
              obtain ⟨ix, rx, wx, ax⟩ := x
              simp only at da db dc de hx hI2
              obtain ⟨w4, hw4⟩ : ∃ w4, wr.alloc (.cells #[.int .i64 ix, .bool rx, .bool wx, .int .i64 ax] 95) = w4 := ⟨_, rfl⟩
              have k4 : Blk w4 wr.heap.size 95 #[.int .i64 ix, .bool rx, .bool wx, .int .i64 ax] := by rw [← hw4]; exact Blk.new _ _ _
              have b4 : Below wr.heap.size wr w4 := by rw [← hw4]; exact (Below.refl _ _).alloc (Nat.le_refl _) _
              have B4 := Lib.hid (bld_later hB.out b4)
              have L4 := Lib.hid (hL.out.trans (Lk.later b4 (Nat.le_of_lt (bld_lt hB.out))))
              have FI : Hid (∀ w', Below w4.heap.size w4 w' → Calls Tryz.prog 75 #[.int .i64 ix] w' fun e w'' => e = .returned (.string ⟨(Lib.itoa ix).toArray⟩) ∧ Below w'.heap.size w' w'') := Lib.hid fun w' h => wItoa ix w' (by unfold i64; omega) (HE.out w' (L4.out.trans (Lk.later h (Nat.le_of_lt (bld_lt B4.out)))))
              have FA : Hid (∀ w', Below w4.heap.size w4 w' → Calls Tryz.prog 75 #[.int .i64 ax] w' fun e w'' => e = .returned (.string ⟨(Lib.itoa ax).toArray⟩) ∧ Below w'.heap.size w' w'') := Lib.hid fun w' h => wItoa ax w' (by unfold i64; omega) (HE.out w' (L4.out.trans (Lk.later h (Nat.le_of_lt (bld_lt B4.out)))))
              have HI2 := Lib.hid hI2
              have HW4 := Lib.hid hw4
              clear hI hI2 dd hw4 hx b4
              obtain ⟨q4, hq4⟩ : ∃ q, wr.heap.size = q := ⟨_, rfl⟩
              have HQ4 := Lib.hid hq4
              rw [hq4] at k4
              clear hq4
              have d4 := k4.at4
              have hr := Below.refl w4.heap.size w4
              have hb4 : b ≤ w4.heap.size := Nat.le_of_lt (bld_lt B4.out)
              rw [eg]
              go_upto_region 18 with fail
              rw [HW4.out, HQ4.out]
              clear da db dc de
              refine wp_region_later w4.heap.size (by kernel_rfl) (by kernel_rfl) ?_
              have hu : ∀ u : Later w4.heap.size w4, Below w4.heap.size w4 u.world := Later.below
              repeat (go_big_quiet_step ((go_at_call 75; exact later_below (Nat.le_refl _) (by first | with_reducible (exact FI.out _ (Later.below _)) | with_reducible (exact FA.out _ (Later.below _))))))
              refine wpQuiet_nil ?_
              intro w5 b5
              have B5 := bld_later B4.out b5
              have L5 := L4.out.trans (Lk.later b5 hb4)
              have k5 := k4.later b5
              clear hu d4 hr b5 k4
              have d5 := k5.at4
              have hr := Below.refl w5.heap.size w5
              cases wx
              · go_wp2_with fail
                refine (xLineT [kRead, Lib.itoa ix] _ rfl 2 b cur _ TOT w1 w5 L5 B5 HI2.out hl (by simp) (by simp)).mono ?_; rintro e w6 ⟨rfl, B6, I6, L6⟩
                clear B5 L5 d5 hr k5
                go_wp2_with fail
                go_roundw
                case rel => exact ⟨k + 1, _, by go_num, by omega, B6, I6, L6⟩
                case measure => simp [intOf]; omega
              · cases rx
                · go_wp2_with fail
                  refine (xLineT [kWrite, Lib.itoa ix, Lib.itoa ax] _ rfl 3 b cur _ TOT w1 w5 L5 B5 HI2.out hl (by simp) (by simp)).mono ?_; rintro e w6 ⟨rfl, B6, I6, L6⟩
                  clear B5 L5 d5 hr k5
                  go_wp2_with fail
                  go_roundw
                  case rel => exact ⟨k + 1, _, by go_num, by omega, B6, I6, L6⟩
                  case measure => simp [intOf]; omega
                · go_wp2_with fail
                  refine (xLineT [kBoth, Lib.itoa ix, Lib.itoa ax] _ rfl 3 b cur _ TOT w1 w5 L5 B5 HI2.out hl (by simp) (by simp)).mono ?_; rintro e w6 ⟨rfl, B6, I6, L6⟩
                  clear B5 L5 d5 hr k5
                  go_wp2_with fail
                  go_roundw
                  case rel => exact ⟨k + 1, _, by go_num, by omega, B6, I6, L6⟩
                  case measure => simp [intOf]; omega
            · obtain rfl : k = r.reports.length := by omega
              have e1 : ¬ (r.reports.length : Int) < (r.reports.length : Int) := by omega
              have HT4 : Hid (cur ++ (drainB r.drain ++ abortB r.abort) = TOT) := Lib.hid (by
                have h1 := hI.out
                rw [List.drop_length] at h1
                rw [HR3.out]
                exact h1)
              have KW := Lib.hid (KK.out wr hL.out)
              have d0 := KW.out.at6
              have hr := Below.refl wr.heap.size wr
              clear hI
              cases hab : r.abort
              all_goals (rw [hab] at d0 HT4 KK)
              all_goals (
                by_cases hdr : (0 : Int) < r.drain
                · have hde : drainB r.drain = lineB [kDrain, textT (r.drain - 1)] := by unfold drainB; rw [if_pos hdr]
                  have s2 : IntKind.i64.wrap (r.drain - 1) = r.drain - 1 := IntWalk.i64_in _ (by omega)
                  have FT := Lib.hid (tText (r.drain - 1) wr (by unfold i64; omega) (HE.out wr hL.out))
                  have HI2 := HT4.out
                  rw [hde] at HI2
                  have HI2 := Lib.hid HI2
                  clear hde HT4
                  go_wp2_with fail
                  refine FT.out.mono ?_; rintro e w4 ⟨rfl, b4⟩
                  have B4 := bld_later hB.out b4
                  have L4 := hL.out.trans (Lk.later b4 (Nat.le_of_lt (bld_lt hB.out)))
                  clear b4 d0 hr
                  go_wp2_with fail
                  refine (xLineT [kDrain, textT (r.drain - 1)] _ rfl 2 b cur _ TOT w1 w4 L4 B4 HI2.out hl (by simp) (by simp)).mono ?_; rintro e w5 ⟨rfl, B5, I5, L5⟩
                  clear B4 L4
                  have d0 := (KK.out w5 L5.out).at6
                  have hr := Below.refl w5.heap.size w5
                  go_wp2_with fail
                  first
                    | (refine (xLineT [kAbort] _ rfl 1 b _ [] TOT w1 _ L5.out B5.out (by rw [List.append_nil]; exact I5.out) hl (by simp) (by simp)).mono ?_; rintro e w7 ⟨rfl, B7, I7, L7⟩
                       go_wp2_with fail
                       go_end0
                       refine ⟨rfl, ?_, (T1.out.trans L7.out).bel⟩
                       have := I7.out
                       rw [List.append_nil] at this
                       rw [← this]
                       exact B7.out)
                    | (go_end0
                       refine ⟨rfl, ?_, (T1.out.trans L5.out).bel⟩
                       have : _ ++ [] = TOT := I5.out
                       rw [List.append_nil] at this
                       rw [← this]
                       exact B5.out)
                · have hde : drainB r.drain = [] := by unfold drainB; rw [if_neg hdr]
                  have HI2 := HT4.out
                  rw [hde, List.nil_append] at HI2
                  have I5 := Lib.hid HI2
                  have B5 := hB
                  have L5 := hL
                  clear hde HT4 HI2
                  go_wp2_with fail
                  first
                    | (refine (xLineT [kAbort] _ rfl 1 b _ [] TOT w1 _ L5.out B5.out (by rw [List.append_nil]; exact I5.out) hl (by simp) (by simp)).mono ?_; rintro e w7 ⟨rfl, B7, I7, L7⟩
                       go_wp2_with fail
                       go_end0
                       refine ⟨rfl, ?_, (T1.out.trans L7.out).bel⟩
                       have := I7.out
                       rw [List.append_nil] at this
                       rw [← this]
                       exact B7.out)
                    | (go_end0
                       refine ⟨rfl, ?_, (T1.out.trans L5.out).bel⟩
                       have : _ ++ [] = TOT := I5.out
                       rw [List.append_nil] at this
                       rw [← this]
                       exact B5.out))
end Go.Proofs.YtmnkekepccdlcaaGreatDoor

namespace Go.Proofs.YtmnkekepccdlcaaGreatDoor
set_option linter.unusedVariables false
set_option linter.unusedSimpArgs false
open Go.RowKit

set_option maxHeartbeats 4000000 in
set_option maxRecDepth 100000 in
theorem xPrint (h : Hd) (r : Rd) (w : World) (ha : RAt w h r) (hs : Sml 1000000 [r]) (he : EnvW w) (hl : goodR r = true → (printR r).length ≤ 900000) :
    Calls Tryz.prog 37 #[.agg (rC h r).toArray] w fun e w' => e = .returned (.tuple #[.string ⟨(if goodR r = true then printR r else []).toArray⟩, .int .i64 (if goodR r = true then 0 else 2)]) ∧ Below w.heap.size w w' := by
  obtain ⟨w0, hw0⟩ : ∃ w0, w.alloc (.cells (rC h r).toArray 59) = w0 := ⟨_, rfl⟩
  have b0 : Below w.heap.size w w0 := by rw [← hw0]; exact (Below.refl _ _).alloc (Nat.le_refl _) _
  have k0 : Blk w0 w.heap.size 59 (rC h r).toArray := by rw [← hw0]; exact Blk.new _ _ _
  obtain ⟨w1, hw1⟩ : ∃ w1, w0.alloc (.cells #[.pointer none, .slice none 0 0] 75) = w1 := ⟨_, rfl⟩
  have B1 : Bld w0.heap.size w0.heap.size [] w1 := by rw [← hw1]; exact bNew w0
  have b1 : Below w0.heap.size w0 w1 := by rw [← hw1]; exact (Below.refl _ _).alloc (Nat.le_refl _) _
  have k1 := k0.later b1
  have bb := b0.up b1
  have F := Lib.hid (xGood h r w1 (ha.later bb) hs)
  have hq0 : w.heap.size ≤ w0.heap.size := b0.size
  have FL : Hid (∀ w', goodR r = true → Below w1.heap.size w1 w' → Calls Tryz.prog 62 #[.pointer (some ⟨w0.heap.size, 0, none⟩), .agg (rC h r).toArray] w' fun e w'' => e = .returned (.tuple #[]) ∧ Bld w0.heap.size w0.heap.size (printR r) w'' ∧ Below w0.heap.size w' w'') := Lib.hid fun w' hg hb => by
    have := xLinesW h r w0.heap.size [] w w' ha hg hs he (bb.up hb) hq0 (bld_later B1 hb) (hl hg)
    rw [List.nil_append] at this
    exact this
  unfold rC at F FL k1 hw0 ⊢
  have HW0 := Lib.hid hw0
  have HW1 := Lib.hid hw1
  have BB := Lib.hid bb
  have BH1 := Lib.hid B1
  have B01 := Lib.hid b0
  have hs1 : w0.heap.size ≤ w1.heap.size := b1.size
  clear ha hs he hl hw0 hw1 k0 b0 b1 bb B1
  generalize hq : w.heap.size = q at *
  generalize hb : w0.heap.size = b at *
  have HQ := Lib.hid hq
  have HB := Lib.hid hb
  clear hq hb
  have d0 := k1.at6
  have hr := Below.refl w1.heap.size w1
  cases hg : goodR r
  all_goals (
    rw [hg] at F
    simp only [Bool.false_eq_true, if_false, if_true]
    go_enter Tryz.func37, Tryz.ntmps37
    go_upto_region 1 with fail
    rw [HW0.out, HQ.out]
    go_upto_region 2 with fail
    rw [HW1.out, HB.out])
  · go_wp2_with fail
    refine F.out.mono ?_; rintro e w2 ⟨rfl, b2⟩
    go_wp2_with fail
    go_ret2
    exact ⟨rfl, BB.out.trans (b2.mono (Nat.le_trans hq0 hs1))⟩
  · go_wp2_with fail
    refine F.out.mono ?_; rintro e w2 ⟨rfl, b2⟩
    have FH := Lib.hid (FL.out w2 hg b2)
    have k2 := k1.later b2
    clear d0 hr F FL hg
    have d0 := k2.at6
    have hr := Below.refl w2.heap.size w2
    go_wp2_with fail
    refine FH.out.mono ?_; rintro e w3 ⟨rfl, B3, b3⟩
    go_wp2_with fail
    have hb3 : b ≤ w3.heap.size := Nat.le_trans hs1 (Nat.le_trans b2.size b3.size)
    refine (bText _ _ _ _ B3 hb3).mono ?_; rintro e w4 ⟨rfl, b4⟩
    go_wp2_with fail
    go_ret2
    exact ⟨rfl, (BB.out.trans (b2.mono (Nat.le_trans hq0 hs1))).trans ((b3.mono hq0).trans (b4.mono hq0))⟩

/-- Where rounds' rows are read, in every later world. -/
structure RsAt (w : World) (ao : Option Addr) (l : List (Hd × Rd)) : Prop where
  at_ : ∀ i (_ : i < l.length), ∃ g, ao = some ⟨g, 0, none⟩ ∧ ∀ w', Below w.heap.size w w' → w'.cell? ⟨g, i * 6, none⟩ = some (.int .i64 l[i].2.ticks) ∧ w'.cell? ⟨g, i * 6 + 1, none⟩ = some (.slice l[i].1.oa l[i].2.opens.length l[i].1.oc) ∧ w'.cell? ⟨g, i * 6 + 2, none⟩ = some (.slice l[i].1.fa l[i].2.offers.length l[i].1.fc) ∧ w'.cell? ⟨g, i * 6 + 3, none⟩ = some (.slice l[i].1.pa l[i].2.reports.length l[i].1.pc) ∧ w'.cell? ⟨g, i * 6 + 4, none⟩ = some (.int .i64 l[i].2.drain) ∧ w'.cell? ⟨g, i * 6 + 5, none⟩ = some (.bool l[i].2.abort)
  all : ∀ q ∈ l, RAt w q.1 q.2
theorem RsAt.later {w w' : World} {ao : Option Addr} {l : List (Hd × Rd)} (h : RsAt w ao l) (hb : Below w.heap.size w w') : RsAt w' ao l :=
  ⟨fun i hi => by obtain ⟨g, e, d⟩ := h.at_ i hi; exact ⟨g, e, fun w'' hw => d w'' (hb.up hw)⟩, fun q hq => (h.all q hq).later hb⟩
theorem Rnds.rsat {B cap : Nat} {w : World} {ao : Option Addr} {l : List (Hd × Rd)} (h : Rnds B w ao cap l) : RsAt w ao l :=
  ⟨fun i hi => by
    obtain ⟨g, e, _, d⟩ := h.at_ i hi
    exact ⟨g, e, fun w' hw => by obtain ⟨h1, h2, h3, h4, h5, h6, _⟩ := d w' hw; exact ⟨h1, h2, h3, h4, h5, h6⟩⟩, fun q hq => (h.all q hq).rat⟩
theorem writeR_snoc (l : List Rd) (r : Rd) : writeR (l ++ [r]) = writeR l ++ printR r := by unfold writeR; simp

set_option maxHeartbeats 4000000 in
set_option maxRecDepth 100000 in
theorem xWrite (l : List (Hd × Rd)) (ao : Option Addr) (cap : Nat) (w : World) (hin : RsAt w ao l) (hs : Sml 1000000 (l.map Prod.snd)) (he : EnvW w) (hN : l.length ≤ 10000)
    (hlen : ∀ k, ((l.take k).all fun q => goodR q.2) = true → (writeR ((l.take k).map Prod.snd)).length ≤ 900000) :
    Calls Tryz.prog 35 #[.slice ao l.length cap] w fun e w' => e = .returned (.tuple #[.string ⟨(if (l.all fun q => goodR q.2) = true then writeR (l.map Prod.snd) else []).toArray⟩, .int .i64 (if (l.all fun q => goodR q.2) = true then 0 else 2)]) ∧ Below w.heap.size w w' := by
  have HIN := Lib.hid hin
  have HE := Lib.hid he
  have HS := Lib.hid hs
  have HLEN := Lib.hid hlen
  have i0 := bNew w
  have hb0 : Below w.heap.size w (w.alloc (.cells #[.pointer none, .slice none 0 0] 75)) := (Below.refl _ _).alloc (Nat.le_refl _) _
  obtain ⟨w0, hw0⟩ : ∃ w0, w.alloc (.cells #[.pointer none, .slice none 0 0] 75) = w0 := ⟨_, rfl⟩
  rw [hw0] at i0 hb0
  have HW := Lib.hid hw0
  have I0 := Lib.hid i0
  clear hin he hs hlen hw0 i0
  obtain ⟨S, hS⟩ : ∃ S, (if (l.all fun q => goodR q.2) = true then writeR (l.map Prod.snd) else []) = S := ⟨_, rfl⟩
  obtain ⟨M, hM⟩ : ∃ M : Int, (if (l.all fun q => goodR q.2) = true then 0 else 2) = M := ⟨_, rfl⟩
  rw [hS, hM]
  have HSM := Lib.hid (And.intro hS hM)
  clear hS hM
  have n0 : ¬ (10000 : Int) < (l.length : Int) := by omega
  go_enter Tryz.func35, Tryz.ntmps35
  go_wp2_with fail
  rw [HW.out]
  generalize hB : w.heap.size = B0 at *
  have hBs : B0 ≤ w.heap.size := Nat.le_of_eq hB.symm
  have HB := Lib.hid hB
  clear hB
  go_loopw [12] (fun iv wr => ∃ (k : Nat), iv = .int .i64 k ∧ k ≤ l.length ∧ Hid (((l.take k).all fun q => goodR q.2) = true) ∧ Hid (Bld B0 B0 (writeR ((l.take k).map Prod.snd)) wr) ∧ Below B0 w wr) (fun iv _ => l.length - (intOf iv).toNat)
  case atStart => exact ⟨0, rfl, Nat.zero_le _, Lib.hid rfl, I0, hb0⟩
  case round =>
    obtain ⟨k, rfl, hk, hg, hbd, hbw⟩ := hrel
    clear I0 hb0
    have e0 : (0 : Int) ≤ (k : Int) := by omega
    by_cases hlt : k < l.length
    · have e1 : (k : Int) < (l.length : Int) := by omega
      have s1 : IntKind.i64.wrap ((k : Int) + 1) = ((k + 1 : Nat) : Int) := by rw [IntWalk.i64_in _ (by omega)]; omega
      obtain ⟨g, eg, d0⟩ := HIN.out.at_ k hlt
      have hbw' : Below w.heap.size w wr := by rw [HB.out]; exact hbw
      have d := d0 wr hbw'
      have hT : l.take (k + 1) = l.take k ++ [l[k]] := List.take_succ_eq_append_getElem hlt
      have hmem := List.getElem_mem hlt
      have hra := HIN.out.all _ hmem
      have hsm : Sml 1000000 [l[k].2] := ⟨by simp, fun r hr => by
        simp at hr; subst hr
        exact HS.out.2 _ (List.mem_map_of_mem hmem)⟩
      generalize l[k] = x at *
      obtain ⟨h, r⟩ := x
      simp only at d hra hsm hT
      obtain ⟨w1, hw1⟩ : ∃ w1, wr.alloc (.cells (rC h r).toArray 59) = w1 := ⟨_, rfl⟩
      have k1 : Blk w1 wr.heap.size 59 (rC h r).toArray := by rw [← hw1]; exact Blk.new _ _ _
      have b1 : Below wr.heap.size wr w1 := by rw [← hw1]; exact (Below.refl _ _).alloc (Nat.le_refl _) _
      have hb1 : Below w.heap.size w w1 := hbw'.up b1
      have bd1 := bld_later hbd.out b1
      have GG := Lib.hid (xGood h r w1 (hra.later hb1) hsm)
      have hln : goodR r = true → (writeR ((l.take k).map Prod.snd) ++ printR r).length ≤ 900000 := fun hgr => by
        have := HLEN.out (k + 1) (by rw [hT, List.all_append, hg.out]; simp [hgr])
        rw [hT, List.map_append] at this
        rw [← writeR_snoc]
        exact this
      have FL : Hid (∀ w', goodR r = true → Below w1.heap.size w1 w' → Calls Tryz.prog 62 #[.pointer (some ⟨B0, 0, none⟩), .agg (rC h r).toArray] w' fun e w'' => e = .returned (.tuple #[]) ∧ Bld B0 B0 (writeR ((l.take (k + 1)).map Prod.snd)) w'' ∧ Below B0 w' w'') := Lib.hid fun w' hgr hb => by
        have := xLinesW h r B0 (writeR ((l.take k).map Prod.snd)) w w' hra hgr hsm HE.out (hb1.up hb) (by rw [HB.out]; exact Nat.le_refl _) (bld_later bd1 hb) (hln hgr)
        rw [hT, List.map_append, List.map_cons, List.map_nil, writeR_snoc]
        exact this
      have HT := Lib.hid hT
      have HM := Lib.hid hmem
      have hb1' : Below B0 w w1 := by rw [HB.out] at hb1; exact hb1
      have hws : B0 ≤ w1.heap.size := Nat.le_trans hBs hb1'.size
      unfold rC at GG FL k1 hw1
      have HW1 := Lib.hid hw1
      obtain ⟨q1, hq1⟩ : ∃ q, wr.heap.size = q := ⟨_, rfl⟩
      have HQ := Lib.hid hq1
      rw [hq1] at k1
      clear hw1 hq1 d0 hbd hbw hbw' b1 hb1 bd1 hln hra hsm hT hmem
      rw [eg]
      go_upto_region 7 with fail
      rw [HW1.out, HQ.out]
      clear d
      have d1 := k1.at6
      have hr := Below.refl w1.heap.size w1
      cases hgx : goodR r
      all_goals (rw [hgx] at GG)
      · have HA : Hid ((l.all fun q => goodR q.2) = false) := Lib.hid (by
          cases ha : l.all fun q => goodR q.2 with
          | false => rfl
          | true => exact absurd (List.all_eq_true.1 ha _ HM.out) (by simp only; rw [hgx]; decide))
        clear hgx
        go_wp2_with fail
        refine GG.out.mono ?_; rintro e w2 ⟨rfl, hb2⟩
        go_wp2_with fail
        go_ret2
        have hbz := hb1'.up hb2 hBs
        have z1 : S = [] := by rw [← HSM.out.1, HA.out]; rfl
        have z2 : M = 2 := by rw [← HSM.out.2, HA.out]; rfl
        subst z1 z2
        rw [← HB.out] at hbz
        exact ⟨rfl, hbz⟩
      · have HG1 : Hid (((l.take (k + 1)).all fun q => goodR q.2) = true) := Lib.hid (by rw [HT.out, List.all_append, hg.out]; simp [hgx])
        have FLH := Lib.hid (fun w' => FL.out w' hgx)
        clear hgx hg FL
        go_wp2_with fail
        refine GG.out.mono ?_; rintro e w2 ⟨rfl, hb2⟩
        have k2 := k1.later hb2
        have hb2' := hb1'.up hb2 hBs
        have FLG := Lib.hid (FLH.out w2 hb2)
        clear d1 hr FLH hb2 GG
        have d1 := k2.at6
        have hr := Below.refl w2.heap.size w2
        go_wp2_with fail
        refine FLG.out.mono ?_; rintro e w3 ⟨rfl, B3, b3⟩
        have HB3 := hb2'.trans b3
        have B3 := Lib.hid B3
        clear d1 hr
        go_wp2_with fail
        go_roundw
        case rel => exact ⟨k + 1, by go_num, by omega, HG1, B3, HB3⟩
        case measure => simp [intOf]; omega
    · obtain rfl : k = l.length := by omega
      have e1 : ¬ ((l.length : Int) < (l.length : Int)) := by omega
      have hbd2 := hbd.out
      have hg2 := hg.out
      rw [List.take_length] at hbd2 hg2
      have HG2 := Lib.hid hg2
      clear hbd hg hg2
      go_wp2_with fail
      refine (bText _ _ _ _ hbd2 (Nat.le_trans hBs hbw.size)).mono ?_; rintro e w4 ⟨rfl, b5⟩
      have b6 := hbw.trans b5
      go_wp2_with fail
      go_ret2
      have z1 : S = writeR (l.map Prod.snd) := by rw [← HSM.out.1, HG2.out]; rfl
      have z2 : M = 0 := by rw [← HSM.out.2, HG2.out]; rfl
      subst z1 z2
      rw [← HB.out] at b6
      exact ⟨rfl, b6⟩
theorem xWriteLong (n : Nat) (ao : Option Addr) (cap : Nat) (w : World) (hN : 10000 < n) (hn : n ≤ 1000000) :
    Calls Tryz.prog 35 #[.slice ao n cap] w fun e w' => e = .returned (.tuple #[.string ⟨#[]⟩, .int .i64 4]) ∧ Below w.heap.size w w' := by
  have hb0 : Below w.heap.size w (w.alloc (.cells #[.pointer none, .slice none 0 0] 75)) := (Below.refl _ _).alloc (Nat.le_refl _) _
  have n0 : (10000 : Int) < (n : Int) := by omega
  go_enter Tryz.func35, Tryz.ntmps35
  go_wp2_with fail
  go_ret2
  exact ⟨rfl, hb0⟩
end Go.Proofs.YtmnkekepccdlcaaGreatDoor
