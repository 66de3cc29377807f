/-
  What a line says: its end, and what a step of reading leaves alone.
  Conditions: none.
-/
import Derived.Test.YtmnkekepccdlcaaGreatDoorWorldC
import Derived.Deep.RegionHeld3
import Derived.Deep.RegionLaw
import Derived.Deep.CutBlock
import Derived.Maps.AppendAt
namespace Go.Proofs.YtmnkekepccdlcaaGreatDoor
set_option linter.unusedVariables false
set_option linter.unusedSimpArgs false
open Go.RowKit

/-- The blocks of a type stay as they were. -/
def KeepTy (t : TypeId) (w w' : World) : Prop := ∀ (g : Nat) (cur : Array Value), w.heap[g]? = some (Obj.cells cur t (0, 0)) → w'.heap[g]? = some (Obj.cells cur t (0, 0))
/-- A step of reading: what lies below block B stays, and so do texts' rows. -/
structure Stp (B : Nat) (w w' : World) : Prop where
  bel : Below B w w'
  keep : KeepTy 9 w w'
section
variable {B : Nat} {a w w' : World}
theorem Stp.refl (B : Nat) (w : World) : Stp B w w := ⟨Below.refl _ _, fun _ _ h => h⟩
theorem Stp.trans (h : Stp B a w) (k : Stp B w w') : Stp B a w' := ⟨h.bel.trans k.bel, fun g c e => k.keep g c (h.keep g c e)⟩
theorem Stp.later (h : Below w.heap.size w w') (hB : B ≤ w.heap.size) : Stp B w w' := ⟨h.mono hB, fun g c e => (h.block g (Array.getElem?_eq_some_iff.1 e).1).trans e⟩
theorem Stp.reader {b : Nat} {cs : Array Value} (hb : Blk w b 86 cs) (hg : w.grownBy w' (some b)) (hB : B ≤ b) : Stp B w w' :=
  ⟨only_to hg (Nat.le_trans hB (Nat.le_of_lt hb.lt)) hB, fun g c e => (hg.block g (Array.getElem?_eq_some_iff.1 e).1 (by
    rintro ⟨⟩
    unfold Blk at hb
    rw [e] at hb
    cases hb)).trans e⟩
theorem Stp.row {t : TypeId} {k B1 n : Nat} {v : Value} {xs : List Value} (h : ORow t k B1 w v n xs) (hg : w.grownBy w' v.ownBlock) (ht : t ≠ 9) (hB : B ≤ B1) (hs : B ≤ w.heap.size) : Stp B w w' :=
  ⟨(Below.refl B w).grown hg hs (fun j hj => Nat.le_trans hB (World.ownsRow.lt h j hj).1), fun g c e => (hg.block g (Array.getElem?_eq_some_iff.1 e).1 (fun e2 => by
    obtain ⟨c2, h2⟩ := orow_type h e2.symm
    rw [e] at h2
    cases h2
    exact ht rfl)).trans e⟩
end
theorem info_int : (Tryz.prog.info? 3).map (fun i => (i.zero, i.size, i.bytes)) = some (some (.int .i64 0), 1, 8) := by kernel_rfl
theorem info_offer : (Tryz.prog.info? 93).map (fun i => (i.zero, i.size, i.bytes)) = some (some (.agg #[.int .i64 0, .string ⟨#[]⟩, .bool false]), 3, 32) := by kernel_rfl
theorem info_report : (Tryz.prog.info? 95).map (fun i => (i.zero, i.size, i.bytes)) = some (some (.agg #[.int .i64 0, .bool false, .bool false, .int .i64 0]), 4, 24) := by kernel_rfl
theorem info_round : (Tryz.prog.info? 59).map (fun i => (i.zero, i.size, i.bytes)) = some (some (.agg #[.int .i64 0, .slice none 0 0, .slice none 0 0, .slice none 0 0, .int .i64 0, .bool false]), 6, 96) := by kernel_rfl

section
variable {P : Program} {e : TypeId} {k B : Nat}
/-- append of one element onto a row of the call's own, as one step of a region that draws. -/
theorem step_append {te : TypeId} {z : Value} {bytes : Nat} {ops : Array Oper} {o : Oper} {a : Act} {w : World} {K : Act → World → Prop} {Q : Exit → Act → World → Prop} {E : Prop}
    (infoE : (P.info? e).map (fun i => (i.zero, i.size, i.bytes)) = some (some z, k, bytes)) (hz : z.cells.size = k) (hk : 0 < k) (hby : bytes ≤ 1000) (hte : P.underlying te = some (.slice e))
    (hg : o.guard = none) (s x : Operand) (hop : o.op = Op.call { callee := Callee.builtin Builtin.append, args := #[s, x], argTypes := #[te, te] }) (v : Value) (n : Nat) (xs : List Value) (hs : a.eval s = v) (h : ORow e k B w v n xs)
    (q : Nat) (hx : a.eval x = .slice (some ⟨q, 0, none⟩) 1 1) (news : List Value) (hl : news.length = k) (hq : ∀ j u, news[j]? = some u → w.cell? ⟨q, j, none⟩ = some u) (h1 : ∀ u ∈ news, u.oneCell' = true) (hm : n ≤ 1000000) (hB : B ≤ w.heap.size)
    (hK : ∀ ao cap w', ORow e k B w' (.slice ao (n + 1) cap) (n + 1) (xs ++ news) → w.grownBy w' v.ownBlock → K (a.put o.dst (.slice ao (n + 1) cap)) w') :
    if Region.wanted o (yielded ops a.tmps) = true then Oper.wp P o a w K Q else E := by
  have hw : Region.wanted o (yielded ops a.tmps) = true := by simp [Region.wanted, hg]
  rw [if_pos hw]
  obtain ⟨i0, hi, hz0, hz1, hz2⟩ := info_parts infoE
  have hbb : (n + 1) * bytes ≤ 1000001 * 1000 := Nat.mul_le_mul (by omega) hby
  obtain ⟨v', w', hr, h2, h3, h4, h5⟩ := run_append_own_at (P := P) w B te o.type e i0 z k bytes hte hi hz0 hz1 hz2 hz hk v n xs h ⟨q, 0, none⟩ 1 1 news (by omega) (fun j u hj => by rw [Addr.add_lit, Nat.zero_add]; exact hq j u hj) h1 (by unfold maxLen; omega) (by omega) hB
  obtain ⟨ao, cap, rfl, _⟩ := orow_form h2
  unfold Oper.wp execOp
  simp only [hop, resolve, invoke, builtin, Sem.run_bind, Sem.run_pure, Result.andThen_ok, List.map_toArray, List.map_cons, List.map_nil, hs, hx, hr]
  exact hK ao cap w' h2 h3
end
/-- What stands behind all that a line wants. -/
def endS (W : List Wd) (s : Rs) : Rs := match W[s.next]? with
  | none => s
  | some x => failS s x.place 2
theorem parse_nonneg (l : List UInt8) : 0 ≤ (parseT l).1 := by
  unfold parseT
  split
  · unfold nev; simp
  · split
    · split
      · simp
      · simp
    · simp
theorem numW_le (most : Int) (l : List UInt8) (h : (numW most l).2 = 0) : 0 ≤ (numW most l).1 ∧ (numW most l).1 ≤ most := by
  have := parse_nonneg l
  unfold numW at h ⊢
  split at h
  · cases h
  · rename_i hn
    rw [if_neg hn]
    refine ⟨this, ?_⟩
    have : ¬ most < (parseT l).1 := fun e => hn ⟨h, e⟩
    omega
theorem numW_err (most : Int) (l : List UInt8) (h : (numW most l).2 ≠ 0) : (numW most l).1 = 0 := by
  unfold numW at h ⊢
  split
  · rfl
  · rename_i hn
    rw [if_neg hn] at h
    unfold parseT at h ⊢
    split
    · rename_i h1; rw [if_pos h1] at h; exact absurd rfl h
    · rename_i h1
      rw [if_neg h1] at h
      split
      · rename_i h2
        rw [if_pos h2] at h
        split
        · rfl
        · rename_i h3; rw [if_neg h3] at h; exact absurd rfl h
      · rfl
theorem numW_bd (most : Int) (l : List UInt8) (hm : 0 ≤ most) : 0 ≤ (numW most l).1 ∧ (numW most l).1 ≤ most := by
  by_cases h : (numW most l).2 = 0
  · exact numW_le most l h
  · rw [numW_err most l h]; omega
theorem numberS_bd {W : List Wd} {len : Nat} {s : Rs} {most : Int} (hm : 0 ≤ most) : 0 ≤ (numberS W len s most).1 ∧ (numberS W len s most).1 ≤ most := by
  unfold numberS
  split
  · simp; exact hm
  · exact numW_bd most _ hm
theorem failS_next (s : Rs) (k : Nat) (e : Int) : (failS s k e).next = s.next := by unfold failS; split <;> rfl
theorem wordS_next {W : List Wd} {len : Nat} {s : Rs} {q : Bool} : (wordS W len s q).2.next ≤ s.next + 1 := by
  unfold wordS
  cases hx : W[s.next]? with
  | none => simp [failS_next]
  | some x =>
    simp only
    split
    · exact Nat.le_refl _
    · rw [failS_next]; exact Nat.le_refl _
theorem numberS_nx {W : List Wd} {len : Nat} {s : Rs} {most : Int} : (numberS W len s most).2.next ≤ s.next + 1 := by
  have := wordS_next (W := W) (len := len) (s := s) (q := false)
  unfold numberS
  split
  · exact this
  · rw [failS_next]; exact this
theorem offerS_nx {W : List Wd} {len : Nat} {s : Rs} {eof : Bool} : (offerS W len s eof).2.next ≤ s.next + 2 := by
  have h1 := numberS_nx (W := W) (len := len) (s := s) (most := 4095)
  have h2 := wordS_next (W := W) (len := len) (s := (numberS W len s 4095).2) (q := true)
  unfold offerS
  simp only
  split
  · rw [failS_next]; omega
  · omega
theorem reportS_nx {W : List Wd} {len : Nat} {s : Rs} {x : List UInt8} : (reportS W len s x).2.next ≤ s.next + 2 := by
  have h1 := numberS_nx (W := W) (len := len) (s := s) (most := 4095)
  have h2 := numberS_nx (W := W) (len := len) (s := (numberS W len s 4095).2) (most := 4096)
  unfold reportS
  split
  · simp only; omega
  · simp only; omega
theorem wordS_hurt {W : List Wd} {len : Nat} {s : Rs} {q : Bool} (h : s.bad ≠ 0) : (wordS W len s q).2.col = s.col ∧ (wordS W len s q).2.bad = s.bad := by
  have hf : ∀ (s : Rs) k e, s.bad ≠ 0 → failS s k e = s := fun s k e h => by unfold failS; rw [if_neg (fun e => h e.1)]
  unfold wordS
  cases W[s.next]? with
  | none => simp only; rw [hf _ _ _ h]; exact ⟨rfl, rfl⟩
  | some x =>
    simp only
    split
    · exact ⟨rfl, rfl⟩
    · rw [hf _ _ _ (show (⟨s.next + 1, s.col, s.bad⟩ : Rs).bad ≠ 0 from h)]; exact ⟨rfl, rfl⟩
theorem numberS_hurt {W : List Wd} {len : Nat} {s : Rs} {most : Int} (h : s.bad ≠ 0) : (numberS W len s most).2.col = s.col ∧ (numberS W len s most).2.bad = s.bad := by
  have := wordS_hurt (W := W) (len := len) (q := false) h
  unfold numberS
  rw [if_pos (by rw [this.2]; exact h)]
  exact this
theorem endS_hurt {W : List Wd} {s : Rs} (h : s.bad ≠ 0) : endS W s = s := by
  unfold endS
  cases W[s.next]? with
  | none => rfl
  | some x => show failS s x.place 2 = s; unfold failS; rw [if_neg (fun e => h e.1)]
section
variable {B B0 B1 b g cap len wcap : Nat} {w4 w7 : World} {v u : Value} {s4 : Rs} {l : List (Hd × Rd)} {c : List Value} {h h' : Hd} {r r' : Rd} {wo : Option Addr} {W : List Wd}
/-- A cell of the last round is stored: what stays. -/
theorem cell_done (h4 : Rdr w4 b v u len s4) (L4 : Live B B1 w4 (some ⟨g, 0, none⟩) cap l c h r) (W4 : Lin B0 w4 wo wcap W len) (j : Nat) (x : Value) :
    Rdr (w4.setCell ⟨g, l.length * 6 + j, none⟩ x) b v u len s4 ∧ Live B B1 (w4.setCell ⟨g, l.length * 6 + j, none⟩ x) (some ⟨g, 0, none⟩) cap l (c.set j x) h r ∧ Lin B0 (w4.setCell ⟨g, l.length * 6 + j, none⟩ x) wo wcap W len ∧ Stp B w4 (w4.setCell ⟨g, l.length * 6 + j, none⟩ x) := by
  have gb : b ≠ g := fun e => by
    subst e
    exact orow_off L4.row h4 (by decide) rfl
  have hBg : B ≤ g := (World.ownsRow.lt L4.row g rfl).1
  refine ⟨Blk.far h4 (p := ⟨g, l.length * 6 + j, none⟩) gb x, L4.set_ j x, W4.same fun g2 hg2 => Below.heap_setCell w4 ⟨g, l.length * 6 + j, none⟩ x g2 (fun e => ?_), (Below.refl B w4).setCell (p := ⟨g, l.length * 6 + j, none⟩) hBg x, fun g2 cur e => (Below.heap_setCell w4 ⟨g, l.length * 6 + j, none⟩ x g2 (fun e2 => ?_)).trans e⟩
  · simp only at e
    subst e
    exact orow_ne L4.row W4.row (by decide) rfl (by rw [ownBlock_slice]; exact hg2)
  · simp only at e2
    subst e2
    obtain ⟨c2, h2⟩ := orow_type L4.row rfl
    rw [e] at h2
    cases h2
/-- A row of the last round has grown, and its header is stored: what stays. -/
theorem row_done {t : TypeId} {k n : Nat} {v0 : Value} {xs : List Value} {o : Obj} (h4 : Rdr w4 b v u len s4) (L4 : Live B B1 w4 (some ⟨g, 0, none⟩) cap l c h r) (W4 : Lin B0 w4 wo wcap W len) (ho : ORow t k B1 (w4.alloc o) v0 n xs)
    (t1 : t ≠ 86) (t2 : t ≠ 110) (t3 : t ≠ 9) (g7 : (w4.alloc o).grownBy w7 v0.ownBlock) (L7 : Live B B1 w7 (some ⟨g, 0, none⟩) cap l c h' r') (j : Nat) (x : Value) :
    Rdr (w7.setCell ⟨g, l.length * 6 + j, none⟩ x) b v u len s4 ∧ Live B B1 (w7.setCell ⟨g, l.length * 6 + j, none⟩ x) (some ⟨g, 0, none⟩) cap l (c.set j x) h' r' ∧ Lin B0 (w7.setCell ⟨g, l.length * 6 + j, none⟩ x) wo wcap W len ∧ Stp B w4 (w7.setCell ⟨g, l.length * 6 + j, none⟩ x) := by
  have b5 : Below w4.heap.size w4 (w4.alloc o) := (Below.refl _ _).alloc (Nat.le_refl _) _
  have hBs : B ≤ w4.heap.size := Nat.le_trans L4.lo L4.hi
  have h5 : Rdr (w4.alloc o) b v u len s4 := Blk.alloc h4 _
  have W5 := W4.later b5
  have h7 : Rdr w7 b v u len s4 := Blk.grown h5 g7 (fun e => orow_off ho h5 t1 e.symm)
  have W7 : Lin B0 w7 wo wcap W len := W5.same fun g2 hg2 => g7.block g2 (World.ownsRow.lt W5.row g2 (by rw [ownBlock_slice]; exact hg2)).2 (fun e => orow_ne ho W5.row t2 e.symm (by rw [ownBlock_slice]; exact hg2))
  obtain ⟨e1, e2, e3, e4⟩ := cell_done h7 L7 W7 j x
  exact ⟨e1, e2, e3, ((Stp.later b5 hBs).trans (Stp.row ho g7 t3 L4.lo (Nat.le_trans hBs b5.size))).trans e4⟩
end
/-- How a number that is read answers the plain word. -/
theorem numberS_spec (W : List Wd) (len i cl : Nat) (most : Int) : match fNum W len i most with
    | .ok n => numberS W len ⟨i, cl, 0⟩ most = (n, ⟨i + 1, cl, 0⟩)
    | .error (c, e) => e ≠ 0 ∧ (numberS W len ⟨i, cl, 0⟩ most).2.col = c + 1 ∧ (numberS W len ⟨i, cl, 0⟩ most).2.bad = e := by
  unfold fNum
  cases hx : W[i]? with
  | none => simp [numberS, wordS, failS, hx]
  | some x =>
    simp only
    cases hq : x.quoted
    · simp only [Bool.false_eq_true, if_false]
      by_cases h : (numW most x.text).2 = 0
      · rw [if_pos h]
        simp [numberS, wordS, failS, hx, hq, h]
      · rw [if_neg h]
        simp [numberS, wordS, failS, hx, hq, h]
    · simp [numberS, wordS, failS, hx, hq]
theorem offerS_spec (W : List Wd) (len i cl : Nat) (eof : Bool) : match (fNum W len i 4095).bind fun n => (fTxt W len (i + 1)).bind fun t => .ok (n, t) with
    | .ok (n, t) => offerS W len ⟨i, cl, 0⟩ eof = (⟨n, bt t, eof⟩, ⟨i + 2, cl, 0⟩)
    | .error (c, e) => e ≠ 0 ∧ (offerS W len ⟨i, cl, 0⟩ eof).2.col = c + 1 ∧ (offerS W len ⟨i, cl, 0⟩ eof).2.bad = e := by
  have h1 := numberS_spec W len i cl 4095
  unfold offerS
  cases hn : fNum W len i 4095 with
  | error p =>
    obtain ⟨c, e⟩ := p
    rw [hn] at h1
    simp only at h1
    obtain ⟨g1, g2, g3⟩ := h1
    generalize (numberS W len ⟨i, cl, 0⟩ 4095).2 = s1 at *
    have hb : s1.bad ≠ 0 := by rw [g3]; exact g1
    obtain ⟨k1, k2⟩ := wordS_hurt (W := W) (len := len) (q := true) hb
    show e ≠ 0 ∧ _ = c + 1 ∧ _ = e
    refine ⟨g1, ?_⟩
    simp only
    split
    · unfold failS
      rw [if_neg (fun e => hb (by rw [← k2]; exact e.1)), k1, k2]
      exact ⟨g2, g3⟩
    · rw [k1, k2]; exact ⟨g2, g3⟩
  | ok n =>
    rw [hn] at h1
    simp only at h1
    rw [h1]
    simp only [Except.bind]
    unfold fTxt
    cases hx : W[i + 1]? with
    | none => simp [wordS, failS, hx]
    | some x =>
      simp only
      cases hq : x.quoted
      · simp only [Bool.false_eq_true, if_false, wordS, hx, hq]
        split
        · simp [failS]
        · simp [failS]
      · simp only [if_true, wordS, hx, hq]
        by_cases h : 256 < x.text.length
        · rw [if_pos h, if_pos h]
          simp [failS]
        · rw [if_neg h, if_neg h]
theorem endS_spec (W : List Wd) (i cl : Nat) : match fEnd W i with
    | .ok _ => endS W ⟨i, cl, 0⟩ = ⟨i, cl, 0⟩
    | .error (c, e) => e ≠ 0 ∧ (endS W ⟨i, cl, 0⟩).col = c + 1 ∧ (endS W ⟨i, cl, 0⟩).bad = e := by
  unfold fEnd endS
  cases hx : W[i]? with
  | none => rfl
  | some x => simp [failS]
end Go.Proofs.YtmnkekepccdlcaaGreatDoor
