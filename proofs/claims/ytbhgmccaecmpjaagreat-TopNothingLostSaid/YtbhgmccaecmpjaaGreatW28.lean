/-
  Contracts of package wire, first part: pieces of bytes in a row of strings, and what is peeked of them.
  Conditions: the wire's block is known whole; its pieces lie in a row.
-/
import Derived.Test.YtbhgmccaecmpjaaGreatShelf
import Derived.Test.YtbhgmccaecmpjaaGreatW02
import Derived.ArgAppend
import Derived.Lib.FrozenHead
import Derived.Lib.OthersKept
import Derived.Test.YtbhgmccaecmpjaaGreatW01
import Derived.OwnWalk
import Derived.Laws.Strings
namespace Go.Proofs.YtbhgmccaecmpjaaGreat
set_option linter.unusedVariables false
set_option linter.unusedSimpArgs false
open Go.RowKit

/-- Pieces in a row, from a place of it on. -/
def Pieces (w : World) (lv : Value) (ps : List ByteArray) : Prop :=
  (lv = .slice none 0 0 ∧ ps = []) ∨ ∃ g off cap cur, lv = .slice (some ⟨g, off, none⟩) ps.length cap ∧ w.heap[g]? = some (.cells cur 9 (0, 0)) ∧ ps.length ≤ cap ∧ off + cap ≤ cur.size ∧ cap ≤ maxLen ∧
    ∀ i (h : i < ps.length), cur[off + i]? = some (.string ps[i])

theorem Pieces.form {w : World} {lv : Value} {ps : List ByteArray} (h : Pieces w lv ps) :
    ∃ ao cap, lv = .slice ao ps.length cap ∧ ps.length ≤ maxLen ∧ ∀ k (h : k < ps.length), ∃ g off, ao = some ⟨g, off, none⟩ ∧ w.cell? ⟨g, off + k, none⟩ = some (.string ps[k]) := by
  rcases h with ⟨rfl, rfl⟩ | ⟨g, off, cap, cur, rfl, hb, h1, h2, h3, hc⟩
  · exact ⟨none, 0, rfl, by simp, fun k h => absurd h (by simp)⟩
  · exact ⟨some ⟨g, off, none⟩, cap, rfl, Nat.le_trans h1 h3, fun k hk => ⟨g, off, rfl, by rw [cell_of_row w g (off + k) cur _ _ hb]; exact hc k hk⟩⟩

/-- All bytes of some pieces. -/
def cat (ps : List ByteArray) : List UInt8 := ps.flatMap fun p => p.data.toList
theorem cat_cons (p : ByteArray) (ps : List ByteArray) : cat (p :: ps) = p.data.toList ++ cat ps := rfl
theorem cat_nil : cat [] = [] := rfl

/-- The first piece's part of what is peeked, and the others'. -/
theorem cat_step (p : ByteArray) (ps : List ByteArray) (a r m : Nat) (ha : a ≤ p.size) (hm : m = min r (p.size - a)) :
    ((cat (p :: ps)).drop a).take r = (p.data.toList.drop a).take m ++ (cat ps).take (r - m) := by
  have hl : p.data.toList.length = p.size := rfl
  rw [cat_cons, List.drop_append_of_le_length (by omega), List.take_append]
  have hd : (p.data.toList.drop a).length = p.size - a := by rw [List.length_drop, hl]
  rw [hd]
  subst hm
  rcases Nat.le_total r (p.size - a) with h | h
  · rw [Nat.min_eq_left h, Nat.sub_self, Nat.sub_eq_zero_of_le h]
  · rw [Nat.min_eq_right h, List.take_of_length_le (by rw [hd]; exact h), List.take_of_length_le (i := p.size - a) (by rw [hd]; exact Nat.le_refl _)]

theorem cat_gone (p : ByteArray) (ps : List ByteArray) (a m q : Nat) (h : a + m = p.size) (hm : m ≤ q) : ((cat (p :: ps)).drop a).drop q = ((cat ps).drop 0).drop (q - m) := by
  have hl : p.data.toList.length = p.size := rfl
  rw [cat_cons, List.drop_drop, List.drop_append, List.drop_of_length_le (by omega), List.nil_append, List.drop_zero, hl, show a + q - p.size = q - m by omega]

theorem ext_list (p : ByteArray) (a m : Nat) (h : a + m ≤ p.size) : ((p.extract a p.size).extract 0 m).data.toList = (p.data.toList.drop a).take m := by
  rw [ByteArray.extract_extract]
  simp only [ByteArray.data_extract, Array.toList_extract, List.extract_eq_take_drop]
  congr 1
  omega

set_option maxHeartbeats 2000000 in
theorem wPeekI (b a r : Nat) (lv : Value) (n sent rd : Int) (eof : Bool) (ps : List ByteArray) (w : World) (h : Blk w b 175 #[lv, .int .i64 a, .int .i64 n, .int .i64 sent, .int .i64 rd, .bool eof])
    (hp : Pieces w lv ps) (ha : ∀ p, ps[0]? = some p → a ≤ p.size) (hr : r ≤ ((cat ps).drop a).length) (hb : r ≤ 1000000) (hs : ∀ p ∈ ps, p.size ≤ 1000000) :
    Calls Tryz.prog 124 #[.pointer (some ⟨b, 0, none⟩), .int .i64 r] w fun e w' => e = .returned (.string ⟨(((cat ps).drop a).take r).toArray⟩) ∧ Below w.heap.size w w' := by
  obtain ⟨ao, cap, rfl, hml, hpc⟩ := hp.form
  have hml' : ps.length ≤ 9223372036854775807 := Nat.le_trans hml (by decide)
  have HP := Lib.hid hpc
  clear hpc hp hml
  generalize hB : w.heap.size = B
  generalize hw0 : w.alloc (.cells #[.pointer none, .slice none 0 0] 219) = w0
  have i0 : Lib.IsBuilderF 219 5 B B (Lib.byteCells []) w0 := by
    subst hB hw0
    exact .inl ⟨Nat.le_refl _, .slice none 0 0, heap_alloc_new w _, World.ownsRowF_nil _ _ _ _, by simp [Value.ownBlock]⟩
  have hb0 : Below B w w0 := by subst hB hw0; exact (Below.refl _ _).alloc (Nat.le_refl _) _
  have hbB : b < B := by rw [← hB]; exact h.lt
  have hBs : B ≤ w.heap.size := Nat.le_of_eq hB.symm
  have dB : ∀ w', Below B w w' → w'.cell? ⟨b, 0, none⟩ = some (.slice ao ps.length cap) ∧ w'.cell? ⟨b, 1, none⟩ = some (.int .i64 a) := fun w' hw => ⟨(h.below hw hbB).cell 0, (h.below hw hbB).cell 1⟩
  have HW0 := Lib.hid hw0
  have HB := Lib.hid hB
  clear hw0 hB h
  generalize ht : ((cat ps).drop a).take r = tgt
  have htl : tgt.length = r := by rw [← ht, List.length_take]; omega
  have HT := Lib.hid ht
  have HA := Lib.hid ha
  clear ht ha
  go_enter Tryz.func124, Tryz.ntmps124
  go_upto_region 2 with fail
  rw [HW0.out, HB.out]
  go_wp2_with fail
  go_loopw [1, 6, 7] (fun nv av iv wr => ∃ (k a r : Nat) (acc : List UInt8), nv = .int .i64 r ∧ av = .int .i64 a ∧ iv = .int .i64 k ∧ k ≤ ps.length ∧ Lib.IsBuilderF 219 5 B B (Lib.byteCells acc) wr ∧ Below B w wr ∧
    Hid (acc ++ ((cat (ps.drop k)).drop a).take r = tgt) ∧ r ≤ ((cat (ps.drop k)).drop a).length ∧ Hid (∀ p, ps[k]? = some p → a ≤ p.size)) (fun _ _ iv _ => ps.length - (intOf iv).toNat)
  case atStart => exact ⟨0, a, r, [], rfl, rfl, rfl, Nat.zero_le _, i0, hb0, HT, hr, HA⟩
  case round =>
    obtain ⟨k, a, r, acc, rfl, rfl, rfl, hk, hi, hbw, hT, hr, hA⟩ := hrel
    clear i0 hb0
    by_cases hlt : 0 < r
    · have hk' : k < ps.length := by
        rcases Nat.lt_or_ge k ps.length with h | h
        · exact h
        · rw [List.drop_of_length_le h, cat_nil] at hr
          simp at hr
          omega
      obtain ⟨g, off, rfl, hc⟩ := HP.out k hk'
      have hgB : g < B := Nat.lt_of_lt_of_le (block_lt hc) (Nat.le_of_eq HB.out)
      have fk : ∀ w', Below B w w' → w'.cell? ⟨g, off + k, none⟩ = some (.string ps[k]) := fun w' h => (h.cell (p := ⟨g, off + k, none⟩) hgB).trans hc
      have hap : a ≤ ps[k].size := hA.out _ (List.getElem?_eq_getElem hk')
      have hps : ps[k].size ≤ 1000000 := hs _ (List.getElem_mem hk')
      have hdr : ps.drop k = ps[k] :: ps.drop (k + 1) := List.drop_eq_getElem_cons hk'
      have hst := cat_step ps[k] (ps.drop (k + 1)) a r (min r (ps[k].size - a)) hap rfl
      have hex := ext_list ps[k] a (min r (ps[k].size - a)) (by omega)
      have hlen : r - min r (ps[k].size - a) ≤ ((cat (ps.drop (k + 1))).drop 0).length := by
        rw [hdr, cat_cons] at hr
        have hpl : ps[k].data.toList.length = ps[k].size := rfl
        rw [List.length_drop, List.length_append, hpl] at hr
        rw [List.drop_zero]
        omega
      rw [← hdr] at hst
      generalize ps[k] = p at *
      have e0 : (0 : Int) ≤ (k : Int) := by omega
      have e1 : (k : Int) < (ps.length : Int) := by omega
      have e2 : (0 : Int) < (r : Int) := by omega
      have e3 : (0 : Int) ≤ (a : Int) := by omega
      have e4 : (a : Int) ≤ (p.size : Int) := by omega
      have hsz : ((p.extract a p.size).extract 0 (min r (p.size - a))).size = min r (p.size - a) := by
        have := congrArg List.length hex
        rw [List.length_take, List.length_drop] at this
        have h1 : ((p.extract a p.size).extract 0 (min r (p.size - a))).data.toList.length = ((p.extract a p.size).extract 0 (min r (p.size - a))).size := rfl
        have h2 : p.data.toList.length = p.size := rfl
        omega
      have e5 : min (r : Int) ((p.size - a : Nat) : Int) = ((min r (p.size - a) : Nat) : Int) := by omega
      have hmr : min r (p.size - a) ≤ r := by omega
      generalize min r (p.size - a) = m at *
      generalize hq : (p.extract a p.size).extract 0 m = q at *
      have HX := Lib.hid hex
      have HS := Lib.hid hst
      clear hex hst hdr hc
      have hal : acc.length + r ≤ 1000000 := by
        have := congrArg List.length hT.out
        rw [List.length_append, List.length_take] at this
        omega
      have s1 : IntKind.i64.wrap ((r : Int) - (m : Int)) = ((r - m : Nat) : Int) := by rw [IntWalk.i64_in _ (by omega)]; omega
      go_wp2_with fail
      refine (Tryz.Builder_WriteString_k B B (Lib.byteCells acc) q wr hi (by rw [Lib.byteCells_length]; omega) (Nat.le_trans hBs hbw.size)).mono ?_; rintro e w5 ⟨rfl, hi5, hb5, -⟩
      rw [Lib.strCells_eq, ← Lib.byteCells_append, HX.out] at hi5
      have hb6 : Below B w w5 := hbw.trans hb5
      clear hi hbw hb5
      go_wp2_with fail
      go_roundw
      case rel =>
        refine ⟨k + 1, 0, r - m, _, rfl, rfl, by go_num, by omega, .inr hi5, hb6, Lib.hid ?_, hlen, Lib.hid (fun _ _ => Nat.zero_le _)⟩
        rw [List.drop_zero, List.append_assoc, ← HS.out]
        exact hT.out
      case measure => simp [intOf]; omega
    · have e0 : ¬ (0 : Int) < (r : Int) := by omega
      have hac : acc = tgt := by
        have := hT.out
        rwa [show r = 0 by omega, List.take_zero, List.append_nil] at this
      subst hac
      go_wp2_with fail
      refine (Tryz.Builder_String_any_k B B acc wr hi (Nat.le_trans hBs hbw.size)).mono ?_; rintro e w5 ⟨rfl, -, hb5, -⟩
      have hb6 : Below B w w5 := hbw.trans hb5
      clear hi hbw hb5
      go_wp2_with fail
      go_ret
      exact ⟨rfl, hb6⟩

theorem only_cell {a w : World} {g : Nat} (h : a.grownBy w (some g)) (i : Nat) (u : Value) : a.grownBy (w.setCell ⟨g, i, none⟩ u) (some g) :=
  ⟨h.os, h.tape, h.output, by simpa [World.setCell] using h.size, fun j hj hne => (Below.heap_setCell w ⟨g, i, none⟩ u j (fun e => hne (by rw [e]))).trans (h.block j hj hne)⟩
theorem only_later {a w w' : World} {row : Option Nat} (h : a.grownBy w row) (k : Below w.heap.size w w') : a.grownBy w' row :=
  ⟨k.os.trans h.os, k.tape.trans h.tape, k.output.trans h.output, Nat.le_trans h.size k.size, fun i hi hne => (k.block i (Nat.lt_of_lt_of_le hi h.size)).trans (h.block i hi hne)⟩

theorem Pieces.lt {w : World} {lv : Value} {ps : List ByteArray} (h : Pieces w lv ps) {g : Nat} (hg : lv.ownBlock = some g) : g < w.heap.size := by
  rcases h with ⟨rfl, rfl⟩ | ⟨g', off, cap, cur, rfl, hb, _⟩
  · cases hg
  · cases hg
    exact (Array.getElem?_eq_some_iff.1 hb).1
theorem Pieces.far {w w' : World} {lv : Value} {ps : List ByteArray} (h : Pieces w lv ps) (hk : ∀ g, lv.ownBlock = some g → w'.heap[g]? = w.heap[g]?) : Pieces w' lv ps := by
  rcases h with h | ⟨g', off, cap, cur, rfl, hb, h⟩
  · exact .inl h
  · exact .inr ⟨g', off, cap, cur, rfl, (hk g' rfl).trans hb, h⟩
theorem Pieces.later {w w' : World} {lv : Value} {ps : List ByteArray} (h : Pieces w lv ps) (hb : Below w.heap.size w w') : Pieces w' lv ps := h.far fun g hg => hb.block g (h.lt hg)
theorem Pieces.set_ {w : World} {lv : Value} {ps : List ByteArray} {b : Nat} (h : Pieces w lv ps) (hne : lv.ownBlock ≠ some b) (i : Nat) (u : Value) : Pieces (w.setCell ⟨b, i, none⟩ u) lv ps :=
  h.far fun g hg => Below.heap_setCell w ⟨b, i, none⟩ u g (fun e => hne (by rw [hg, e]))

set_option maxHeartbeats 4000000 in
theorem wSkip (b a r : Nat) (lv : Value) (n sent rd : Int) (eof : Bool) (ps : List ByteArray) (S : List UInt8) (w : World) (h : Blk w b 175 #[lv, .int .i64 a, .int .i64 n, .int .i64 sent, .int .i64 rd, .bool eof])
    (hp : Pieces w lv ps) (hne : lv.ownBlock ≠ some b) (ha : ∀ p, ps[0]? = some p → a < p.size) (ha0 : ps = [] → a = 0) (hS : (cat ps).drop a = S) (hr : r ≤ S.length) (hb : r ≤ 1000000) (hs : ∀ p ∈ ps, 0 < p.size ∧ p.size ≤ 1000000) (hn : (r : Int) ≤ n ∧ n ≤ 1000000) :
    Calls Tryz.prog 125 #[.pointer (some ⟨b, 0, none⟩), .int .i64 r] w fun e w' => e = .returned (.tuple #[]) ∧ ∃ lv' a' ps', Blk w' b 175 #[lv', .int .i64 (a' : Nat), .int .i64 (n - r), .int .i64 sent, .int .i64 rd, .bool eof] ∧
      Pieces w' lv' ps' ∧ (lv'.ownBlock = lv.ownBlock) ∧ (∀ p, ps'[0]? = some p → a' < p.size) ∧ (ps' = [] → a' = 0) ∧ (cat ps').drop a' = S.drop r ∧ (∀ p ∈ ps', 0 < p.size ∧ p.size ≤ 1000000) ∧ w.grownBy w' (some b) := by
  have d0 := h.at6
  have hr0 := Below.refl w.heap.size w
  have s1 : IntKind.i64.wrap (n - (r : Int)) = n - (r : Int) := IntWalk.i64_in _ (by omega)
  generalize hT : S.drop r = T
  have k0 : Blk (w.setCell ⟨b, 2, none⟩ (.int .i64 (n - (r : Int)))) b 175 #[lv, .int .i64 a, .int .i64 (n - (r : Int)), .int .i64 sent, .int .i64 rd, .bool eof] := by
    have := h.set_ 2 (.int .i64 (n - (r : Int)))
    simpa using this
  have p0 := hp.set_ hne 2 (.int .i64 (n - (r : Int)))
  have g0 : w.grownBy (w.setCell ⟨b, 2, none⟩ (.int .i64 (n - (r : Int)))) (some b) := only_cell ⟨rfl, rfl, rfl, Nat.le_refl _, fun _ _ _ => rfl⟩ 2 _
  have HN := Lib.hid hne
  have HA := Lib.hid ha
  have HA0 := Lib.hid ha0
  have HS := Lib.hid (show ((cat ps).drop a).drop r = T by rw [hS]; exact hT)
  have hr' : r ≤ ((cat ps).drop a).length := by rw [hS]; exact hr
  have HH := Lib.hid hs
  clear hne ha ha0 hS hT hr hs
  go_enter Tryz.func125, Tryz.ntmps125
  go_wp2_with fail
  go_loopw [1] (fun nv wr => ∃ (q a : Nat) (lv' : Value) (ps : List ByteArray), nv = .int .i64 q ∧ Blk wr b 175 #[lv', .int .i64 a, .int .i64 (n - (r : Int)), .int .i64 sent, .int .i64 rd, .bool eof] ∧ Pieces wr lv' ps ∧ Hid (lv'.ownBlock = lv.ownBlock) ∧
    Hid (∀ p, ps[0]? = some p → a < p.size) ∧ Hid (ps = [] → a = 0) ∧ Hid (((cat ps).drop a).drop q = T) ∧ q ≤ ((cat ps).drop a).length ∧ q ≤ 1000000 ∧ Hid (∀ p ∈ ps, 0 < p.size ∧ p.size ≤ 1000000) ∧ w.grownBy wr (some b)) (fun nv _ => (intOf nv).toNat)
  case atStart => exact ⟨r, a, lv, ps, rfl, k0, p0, Lib.hid rfl, HA, HA0, HS, hr', hb, HH, g0⟩
  case round =>
    clear d0 hr0 k0 p0 g0 HA HA0 HS HH h hp hr' s1
    obtain ⟨q, a, lv', ps, rfl, hk, hp, hO, hA, hA0, hS, hr, hrb, hH, hg⟩ := hrel
    by_cases hlt : 0 < q
    · match ps, hp, hA, hA0, hS, hr, hH with
      | [], _, _, _, _, hr, _ => simp [cat_nil] at hr; omega
      | p :: ps', hp, hA, hA0, hS, hr, hH =>
        rcases hp with ⟨_, h⟩ | ⟨g, off, cap, cur, rfl, hgb, h1, h2, h3, hc⟩
        · cases h
        have hpa : a < p.size := hA.out p rfl
        have hps := hH.out p (by simp)
        have hc0 : wr.cell? ⟨g, off, none⟩ = some (.string p) := by
          rw [cell_of_row wr g off cur _ _ hgb]; exact hc 0 (by simp)
        have hgw := block_lt hc0
        have ngb : g ≠ b := fun e => HN.out (by rw [← hO.out, e]; rfl)
        have hpl : p.data.toList.length = p.size := rfl
        obtain ⟨m, hm⟩ : ∃ m : Nat, m = min q (p.size - a) := ⟨_, rfl⟩
        have hm1 : m ≤ q := by omega
        have hm2 : a + m ≤ p.size := by omega
        have hm3 : 0 < m := by omega
        have hm4 : a + m = p.size ∨ m = q := by omega
        have e5 : min (q : Int) ((p.size : Int) - (a : Int)) = (m : Int) := by omega
        have s2 : IntKind.i64.wrap ((a : Int) + (m : Int)) = ((a + m : Nat) : Int) := by rw [IntWalk.i64_in _ (by omega)]; omega
        have s3 : IntKind.i64.wrap ((q : Int) - (m : Int)) = ((q - m : Nat) : Int) := by rw [IntWalk.i64_in _ (by omega)]; omega
        have e0 : (0 : Int) < (q : Int) := by omega
        have e1 : (0 : Int) < ((ps'.length + 1 : Nat) : Int) := by omega
        have dk := hk.at6
        have dg : ∀ w', Below wr.heap.size wr w' → w'.cell? ⟨g, off, none⟩ = some (.string p) := fun w' h => (h.cell (p := ⟨g, off, none⟩) hgw).trans hc0
        have hr0 := Below.refl wr.heap.size wr
        have HC := Lib.hid hc
        simp only [List.length_cons] at h1 ⊢
        clear hc0 hc hm
        go_wp2_with fail
        have hu : ∀ u : Later wr.heap.size wr, Below wr.heap.size wr u.world := Later.below
        refine wp_region_later wr.heap.size (by kernel_rfl) (by kernel_rfl) ?_
        repeat (go_big_quiet_step ((fail)))
        refine wpQuiet_nil ?_
        intro w1 hb1
        clear hu
        go_upto_region 4 with fail
        generalize hw2 : w1.setCell ⟨b, 1, none⟩ _ = w2
        have hk2 : Blk w2 b 175 #[.slice (some ⟨g, off, none⟩) (ps'.length + 1) cap, .int .i64 ((a : Int) + (m : Int)), .int .i64 (n - (r : Int)), .int .i64 sent, .int .i64 rd, .bool eof] := by
          have := (hk.later hb1).set_ 1 (.int .i64 ((a : Int) + (m : Int)))
          rw [hw2] at this
          simpa using this
        have hgb2 : w2.heap[g]? = some (.cells cur 9 (0, 0)) := by
          rw [← hw2]; exact (Below.heap_setCell w1 ⟨b, 1, none⟩ _ g ngb).trans ((hb1.block g hgw).trans hgb)
        have hg2 : w.grownBy w2 (some b) := hw2 ▸ only_cell (only_later hg hb1) 1 _
        have hc2 : w2.cell? ⟨g, off, none⟩ = some (.string p) := by
          rw [cell_of_row w2 g off cur _ _ hgb2]; exact HC.out 0 (by simp)
        have hgw2 := block_lt hc2
        clear dk dg hr0 hk hgb hg hgw hb1 hw2
        have dk := hk2.at6
        have dg : ∀ w', Below w2.heap.size w2 w' → w'.cell? ⟨g, off, none⟩ = some (.string p) := fun w' h => (h.cell (p := ⟨g, off, none⟩) hgw2).trans hc2
        have hr0 := Below.refl w2.heap.size w2
        clear hc2
        go_wp2_with fail
        have hu : ∀ u : Later w2.heap.size w2, Below w2.heap.size w2 u.world := Later.below
        refine wp_region_later w2.heap.size (by kernel_rfl) (by kernel_rfl) ?_
        repeat (go_big_quiet_step ((fail)))
        refine wpQuiet_nil ?_
        intro w3 hb3
        clear hu
        have hk3 := hk2.later hb3
        have hgb3 : w3.heap[g]? = some (.cells cur 9 (0, 0)) := (hb3.block g hgw2).trans hgb2
        have hg3 := only_later hg2 hb3
        clear dk dg hr0 hb3 hk2 hgb2 hg2 hgw2
        have dk := hk3.at6
        have hr0 := Below.refl w3.heap.size w3
        by_cases hfull : a + m = p.size
        · have e6 : (a : Int) + (m : Int) = (p.size : Int) := by omega
          have e7 : (1 : Int) ≤ ((ps'.length + 1 : Nat) : Int) := by omega
          have e8 : ((ps'.length + 1 : Nat) : Int) ≤ (cap : Int) := by omega
          have hcg := cat_gone p ps' a m q hfull hm1
          have hlen : q - m ≤ ((cat ps').drop 0).length := by
            rw [cat_cons, List.length_drop, List.length_append, hpl] at hr
            rw [List.drop_zero]
            omega
          have HG := Lib.hid hcg
          have HL := Lib.hid hlen
          clear hcg hlen
          go_wp2_with fail
          generalize hA2 : (if cap = 1 then some (⟨g, off, none⟩ : Addr) else some ⟨g, off + 1, none⟩) = ad
          have hpn : Pieces w3 (.slice ad ps'.length (cap - 1)) ps' := by
            by_cases h1' : cap = 1
            · rw [if_pos h1'] at hA2
              obtain rfl : ps' = [] := List.eq_nil_of_length_eq_zero (by omega)
              exact .inr ⟨g, off, cap - 1, cur, by rw [← hA2], hgb3, by simp, by omega, by omega, fun i h => absurd h (by simp)⟩
            · rw [if_neg h1'] at hA2
              refine .inr ⟨g, off + 1, cap - 1, cur, by rw [← hA2], hgb3, by omega, by omega, by omega, fun i h => ?_⟩
              have := HC.out (i + 1) (by simpa using h)
              rw [show off + 1 + i = off + (i + 1) by omega, this]
              rfl
          have hOn : (Value.slice ad ps'.length (cap - 1)).ownBlock = some g := by
            by_cases h1' : cap = 1
            · rw [if_pos h1'] at hA2; rw [← hA2]; rfl
            · rw [if_neg h1'] at hA2; rw [← hA2]; rfl
          have hnb : (Value.slice ad ps'.length (cap - 1)).ownBlock ≠ some b := by rw [hOn]; exact fun e => ngb (Option.some.inj e)
          have hO2 : (Value.slice (some (⟨g, off, none⟩ : Addr)) (ps'.length + 1) cap).ownBlock = some g := rfl
          have hk4 : Blk ((w3.setCell ⟨b, 0, none⟩ (.slice ad ps'.length (cap - 1))).setCell ⟨b, 1, none⟩ (.int .i64 0)) b 175 #[.slice ad ps'.length (cap - 1), .int .i64 0, .int .i64 (n - (r : Int)), .int .i64 sent, .int .i64 rd, .bool eof] := by
            have := (hk3.set_ 0 (.slice ad ps'.length (cap - 1))).set_ 1 (.int .i64 0)
            simpa using this
          have hH' : ∀ p ∈ ps', 0 < p.size ∧ p.size ≤ 1000000 := fun p' hp' => hH.out p' (by simp [hp'])
          refine ⟨⟨q - m, 0, .slice ad ps'.length (cap - 1), ps', rfl, hk4, (hpn.set_ hnb _ _).set_ hnb _ _, Lib.hid (hOn.trans (hO2.symm.trans hO.out)), Lib.hid (fun p' hp' => (hH' p' (List.mem_of_getElem? hp')).1), Lib.hid (fun _ => rfl), Lib.hid (HG.out.symm.trans hS.out), HL.out, by omega, Lib.hid hH', only_cell (only_cell hg3 _ _) _ _⟩, ?_⟩
          simp [intOf]
          omega
        · have e6 : ¬ (a : Int) + (m : Int) = (p.size : Int) := by omega
          obtain rfl : m = q := by omega
          go_wp2_with fail
          have hk4 : Blk w3 b 175 #[.slice (some ⟨g, off, none⟩) (ps'.length + 1) cap, .int .i64 ((a + m : Nat) : Int), .int .i64 (n - (r : Int)), .int .i64 sent, .int .i64 rd, .bool eof] := by
            rw [Int.natCast_add]; exact hk3
          refine ⟨⟨m - m, a + m, .slice (some ⟨g, off, none⟩) (ps'.length + 1) cap, p :: ps', rfl, hk4, .inr ⟨g, off, cap, cur, rfl, hgb3, by simpa using h1, h2, h3, HC.out⟩, hO, Lib.hid (fun p' hp' => by
            simp only [List.getElem?_cons_zero, Option.some.injEq] at hp'
            subst hp'
            omega), Lib.hid (fun h => by cases h), Lib.hid (by rw [Nat.sub_self, List.drop_zero, ← List.drop_drop]; exact hS.out), by omega, by omega, hH, hg3⟩, ?_⟩
          simp [intOf]
          omega
    · obtain rfl : q = 0 := by omega
      have e0 : ¬ (0 : Int) < ((0 : Nat) : Int) := by omega
      go_wp2_with fail
      go_end0
      exact ⟨rfl, lv', a, hk, ps, hp, hO.out, hA.out, hA0.out, by have := hS.out; rwa [List.drop_zero] at this, hH.out, hg⟩
end Go.Proofs.YtbhgmccaecmpjaaGreat

namespace Go.Proofs.YtbhgmccaecmpjaaGreat
set_option linter.unusedVariables false
set_option linter.unusedSimpArgs false
open Go.RowKit

theorem infoStr : (Tryz.prog.info? 9).map (fun i => (i.zero, i.size, i.bytes)) = some (some (.string ⟨#[]⟩), 1, 16) := by kernel_rfl

theorem wpList_append_pieces (w : World) {ops : Array Oper} {rest : List Oper} {o : Oper} {a : Act} {Q : Exit → Act → World → Prop} (hg : o.guard = none) (s x : Operand)
    (hop : o.op = Op.call { callee := Callee.builtin Builtin.append, args := #[s, x], argTypes := #[173, 173] }) (lv : Value) (ps : List ByteArray) (u : ByteArray) (hp : Pieces w lv ps) (hs : a.eval s = lv)
    (q : Nat) (hx : a.eval x = .slice (some ⟨q, 0, none⟩) 1 1) (hq : w.cell? ⟨q, 0, none⟩ = some (.string u)) (hm : ps.length ≤ 1000000)
    (hK : ∀ g off cap w', Pieces w' (.slice (some ⟨g, off, none⟩) (ps.length + 1) cap) (ps ++ [u]) → w.grownBy w' lv.ownBlock → (lv.ownBlock = some g ∨ w.heap.size ≤ g) → wpList Tryz.prog ops Q rest (a.put o.dst (.slice (some ⟨g, off, none⟩) (ps.length + 1) cap)) w') :
    wpList Tryz.prog ops Q (o :: rest) a w := by
  obtain ⟨i0, hi, hz0, hz1, hz2⟩ := info_parts infoStr
  have c1 : ∀ j v, [Value.string u][j]? = some v → w.cell? ((⟨q, 0, none⟩ : Addr).add j) = some v := by
    intro j v hj
    match j, hj with
    | 0, hj => simp at hj; subst hj; simpa [Addr.add] using hq
  have c2 : ∀ v ∈ [Value.string u], v.oneCell' = true := by intro v hv; simp at hv; subst hv; rfl
  have grown : ∀ v' w', w'.ownsRow w.heap.size 9 1 v' (ps.length + 1) (ps.map Value.string ++ [.string u]) → w.grownBy w' none → wpList Tryz.prog ops Q rest (a.put o.dst v') w' := by
    intro v' w' hown hgr
    rcases hown.2 with ⟨_, h⟩ | ⟨g, cap', cur, rfl, hB, hb, h1, h2, h3, h4⟩
    · omega
    · refine hK g 0 cap' w' (.inr ⟨g, 0, cap', cur, by simp, hb, by simpa using h1, by omega, h2, fun i hi => ?_⟩) ⟨hgr.os, hgr.tape, hgr.output, hgr.size, fun i hi _ => hgr.block i hi (by simp)⟩ (.inr hB)
      have h5 : (cur.toList.take ((ps.length + 1) * 1))[i]? = some (.string (ps ++ [u])[i]) := by
        rw [h4, show ps.map Value.string ++ [Value.string u] = (ps ++ [u]).map Value.string by simp, List.getElem?_map, List.getElem?_eq_getElem hi]
        rfl
      rw [List.getElem?_take_of_lt (by simp at hi; omega)] at h5
      simpa using h5
  rcases hp with ⟨rfl, rfl⟩ | ⟨g, off, cap, cur, rfl, hb, h1, h2, h3, hc⟩
  · exact wpList_append_grows w hg s x 173 hop 9 i0 (.string ⟨#[]⟩) 1 16 Tryz.underlying173 hi hz0 hz1 hz2 rfl (by decide) none 0 0 [] hs (fun _ => ⟨rfl, rfl⟩) rfl (by intro _ h; cases h) ⟨q, 0, none⟩ 1 1 [.string u] hx rfl c1 c2 (by omega) (by unfold maxLen; omega) (by omega) (fun v' w' h k => grown v' w' (by simpa using h) k)
  · have hcell : ∀ j, j < cap → w.cell? ⟨g, off + j, none⟩ = cur[off + j]? := fun j _ => cell_of_row w g (off + j) cur _ _ hb
    refine wpList_append_arg w hg s x 173 hop 9 i0 (.string ⟨#[]⟩) 1 16 Tryz.underlying173 hi hz0 hz1 hz2 rfl (by decide) g off ps.length cap (ps.map Value.string) hs (by simp) ?_ ⟨q, 0, none⟩ 1 1 [.string u] hx rfl c1 c2 ?_ (by unfold maxLen; omega) (by omega) ?_ (fun hgt v' w' h k => grown v' w' h k)
    · intro j v hj
      rw [List.getElem?_map] at hj
      obtain ⟨p, hp, rfl⟩ := Option.map_eq_some_iff.1 hj
      obtain ⟨hlt, rfl⟩ := List.getElem?_eq_some_iff.1 hp
      rw [hcell j (by omega)]
      exact hc j hlt
    · intro hr j hj
      have hj0 : j = 0 := by simpa using hj
      subst hj0
      have hlt : off + ps.length < cur.size := by omega
      refine ⟨?_, ?_⟩
      · rw [Nat.mul_one, Nat.add_zero, hcell _ (by omega), Array.getElem?_eq_getElem hlt]; rfl
      · simp [World.frozen?, hb]
    · intro hr
      have hset : w.setCells g (off + ps.length * 1) [.string u] = w.setCell ⟨g, off + ps.length, none⟩ (.string u) := by simp [World.setCells]
      rw [hset]
      have hlt : g < w.heap.size := (Array.getElem?_eq_some_iff.1 hb).1
      refine hK g off cap _ (.inr ⟨g, off, cap, cur.setIfInBounds (off + ps.length) (.string u), by simp, ?_, by simp; omega, by simp; omega, h3, fun i hi => ?_⟩) ?_ (.inl rfl)
      · exact Blk.set_ (w := w) (g := g) (t := 9) hb (off + ps.length) (.string u)
      · have hi' : i < ps.length + 1 := by simpa using hi
        rcases Nat.lt_or_ge i ps.length with h | h
        · rw [Array.getElem?_setIfInBounds_ne (by omega), List.getElem_append_left h]
          exact hc i h
        · obtain rfl : i = ps.length := by omega
          rw [Array.getElem?_setIfInBounds_self_of_lt (by omega)]
          simp
      · exact only_cell ⟨rfl, rfl, rfl, Nat.le_refl _, fun _ _ _ => rfl⟩ _ _

/-- A wire in block b: the bytes that wait, how many came and were read, and whether the peer ended. -/
structure Wir (w : World) (b : Nat) (lv : Value) (S : List UInt8) (sent rd : Int) (eof : Bool) (a : Nat) (ps : List ByteArray) : Prop where
  blk : Blk w b 175 #[lv, .int .i64 a, .int .i64 (S.length : Nat), .int .i64 sent, .int .i64 rd, .bool eof]
  pcs : Pieces w lv ps
  own : lv.ownBlock ≠ some b
  first : ∀ p, ps[0]? = some p → a < p.size
  none_ : ps = [] → a = 0
  bytes : (cat ps).drop a = S
  each : ∀ p ∈ ps, 0 < p.size ∧ p.size ≤ 1000000

theorem cat_snoc (ps : List ByteArray) (u : ByteArray) : cat (ps ++ [u]) = cat ps ++ u.data.toList := by
  unfold cat; simp
/-- No more pieces than bytes. -/
theorem cat_len : ∀ (ps : List ByteArray), (∀ p ∈ ps, 0 < p.size) → ps.length ≤ (cat ps).length
  | [], _ => Nat.le_refl _
  | p :: ps, h => by
    have h1 := cat_len ps (fun q hq => h q (by simp [hq]))
    have h2 := h p (by simp)
    have h3 : p.data.toList.length = p.size := rfl
    rw [cat_cons, List.length_append, List.length_cons, h3]
    omega
theorem Wir.count {w : World} {b a : Nat} {lv : Value} {S : List UInt8} {sent rd : Int} {eof : Bool} {ps : List ByteArray} (h : Wir w b lv S sent rd eof a ps) : ps.length ≤ S.length + 1 := by
  match ps, h with
  | [], h => simp
  | p :: ps', h =>
    have h1 := cat_len ps' (fun q hq => (h.each q (by simp [hq])).1)
    have h2 := h.first p rfl
    have h3 : p.data.toList.length = p.size := rfl
    have h4 := congrArg List.length h.bytes
    rw [cat_cons, List.length_drop, List.length_append, h3] at h4
    rw [List.length_cons]
    omega

theorem wNew (w : World) : Calls Tryz.prog 49 #[] w fun e w' => e = .returned (.pointer (some ⟨w.heap.size, 0, none⟩)) ∧ Wir w' w.heap.size (.slice none 0 0) [] 0 0 false 0 [] ∧ Below w.heap.size w w' := by
  go_enter Tryz.func49, Tryz.ntmps49
  go_wp2
  go_ret
  exact ⟨rfl, ⟨Blk.new _ _ _, .inl ⟨rfl, rfl⟩, by simp [Value.ownBlock], by simp, fun _ => rfl, rfl, by simp⟩, (Below.refl _ _).alloc (Nat.le_refl _) _⟩

theorem strEmpty {b : ByteArray} (h : b.size = 0) : b = ⟨#[]⟩ := by
  apply ByteArray.ext
  exact Array.eq_empty_of_size_eq_zero h
theorem strSome {b : ByteArray} (h : 0 < b.size) : b.toList.isEmpty = false := by
  rw [ByteArray.toList_eq]
  cases hl : b.data.toList with
  | nil =>
    have : b.data.toList.length = b.size := rfl
    rw [hl] at this
    simp at this
    omega
  | cons _ _ => rfl

/-- Nothing turned but block b and the row that lv lies in. -/
structure Turned (w w' : World) (b : Nat) (lv : Value) : Prop where
  os : w'.os = w.os
  tape : w'.tape = w.tape
  output : w'.output = w.output
  size : w.heap.size ≤ w'.heap.size
  block : ∀ i, i < w.heap.size → i ≠ b → lv.ownBlock ≠ some i → w'.heap[i]? = w.heap[i]?
theorem Turned.of {w w' : World} {b : Nat} {lv : Value} (h : w.grownBy w' (some b)) : Turned w w' b lv := ⟨h.os, h.tape, h.output, h.size, fun i hi hb _ => h.block i hi (fun e => hb (Option.some.inj e))⟩
theorem Turned.row {w w' : World} {b : Nat} {lv : Value} (h : w.grownBy w' lv.ownBlock) : Turned w w' b lv := ⟨h.os, h.tape, h.output, h.size, fun i hi _ hr => h.block i hi (fun e => hr e.symm)⟩
theorem Turned.set_ {w w' : World} {b : Nat} {lv : Value} (h : Turned w w' b lv) (i : Nat) (u : Value) : Turned w (w'.setCell ⟨b, i, none⟩ u) b lv :=
  ⟨h.os, h.tape, h.output, by simpa [World.setCell] using h.size, fun j hj hb hr => (Below.heap_setCell w' ⟨b, i, none⟩ u j hb).trans (h.block j hj hb hr)⟩
theorem Turned.trans {w w' w2 : World} {b : Nat} {lv lv' : Value} (h : Turned w w' b lv) (k : Turned w' w2 b lv') (hl : lv'.ownBlock = lv.ownBlock ∨ ∀ g, lv'.ownBlock = some g → w.heap.size ≤ g) : Turned w w2 b lv :=
  ⟨k.os.trans h.os, k.tape.trans h.tape, k.output.trans h.output, Nat.le_trans h.size k.size, fun i hi hb hr => (k.block i (Nat.lt_of_lt_of_le hi h.size) hb (fun e => by
    rcases hl with hl | hl
    · exact hr (hl.symm.trans e)
    · have := hl i e; omega)).trans (h.block i hi hb hr)⟩

def Offered (w : World) (b a : Nat) (lv : Value) (S : List UInt8) (sent rd : Int) (eof : Bool) (w' : World) : Prop :=
  ∃ lv' ps', Wir w' b lv' S sent rd eof a ps' ∧ (lv'.ownBlock = lv.ownBlock ∨ ∀ g, lv'.ownBlock = some g → w.heap.size ≤ g) ∧ Turned w w' b lv

set_option maxHeartbeats 4000000 in
set_option maxRecDepth 100000 in
theorem wOffer1 (b a : Nat) (lv : Value) (S : List UInt8) (sent rd : Int) (ef : Bool) (ps : List ByteArray) (u : ByteArray) (w : World) (h : Wir w b lv S sent rd false a ps) (hu : u.size ≤ 4096) (hS : S.length ≤ 500000) (hse : 0 ≤ sent ∧ sent ≤ 500000) :
    Calls Tryz.prog 52 #[.pointer (some ⟨b, 0, none⟩), .string u, .bool ef] w fun e w' => e = .returned (.bool true) ∧ Offered w b a lv (S ++ u.data.toList) (sent + u.size) rd ef w' := by
  have d0 := h.blk.at6
  have hr := Below.refl w.heap.size w
  have hc := h.count
  have h1 : ¬ (4096 : Int) < (u.size : Int) := by omega
  have hul : u.data.toList.length = u.size := rfl
  have s1 : IntKind.i64.wrap ((S.length : Int) + (u.size : Int)) = (S.length : Int) + (u.size : Int) := IntWalk.i64_in _ (by omega)
  have s2 : IntKind.i64.wrap (sent + (u.size : Int)) = sent + (u.size : Int) := IntWalk.i64_in _ (by omega)
  rcases Nat.eq_zero_or_pos u.size with hz | hz
  · obtain rfl := strEmpty hz
    rw [show S ++ (⟨#[]⟩ : ByteArray).data.toList = S by simp]
    have hz0 : (0 : Int) + 0 = 0 := rfl
    have hw : ∀ w', w' = ((w.setCell ⟨b, 2, none⟩ (.int .i64 (S.length : Nat))).setCell ⟨b, 3, none⟩ (.int .i64 sent)).setCell ⟨b, 5, none⟩ (.bool ef) → Offered w b a lv S (sent + ((⟨#[]⟩ : ByteArray).size : Nat)) rd ef w' := by
      rintro w' rfl
      have he : sent + (((⟨#[]⟩ : ByteArray).size : Nat) : Int) = sent := by show sent + 0 = sent; omega
      rw [he]
      have k := ((h.blk.set_ 2 (.int .i64 (S.length : Nat))).set_ 3 (.int .i64 sent)).set_ 5 (.bool ef)
      exact ⟨lv, ps, ⟨by simpa using k, ((h.pcs.set_ h.own _ _).set_ h.own _ _).set_ h.own _ _, h.own, h.first, h.none_, h.bytes, h.each⟩, .inl rfl, ((Turned.of ⟨rfl, rfl, rfl, Nat.le_refl _, fun _ _ _ => rfl⟩).set_ 2 _ |>.set_ 3 _).set_ 5 _⟩
    have HW := Lib.hid hw
    clear hw hz0
    generalize Offered w b a lv S (sent + ((⟨#[]⟩ : ByteArray).size : Nat)) rd ef = T at HW ⊢
    go_enter Tryz.func52, Tryz.ntmps52
    go_wp2_with fail
    go_ret
    exact ⟨rfl, HW.out _ rfl⟩
  · have h2 := strSome hz
    have lb := h.blk.lt
    have hfin : ∀ g off cap w', Pieces w' (.slice (some ⟨g, off, none⟩) (ps.length + 1) cap) (ps ++ [u]) → (w.alloc (.cells #[.string u] 9)).grownBy w' lv.ownBlock → (lv.ownBlock = some g ∨ (w.alloc (.cells #[.string u] 9)).heap.size ≤ g) →
        Blk w' b 175 #[lv, .int .i64 a, .int .i64 (S.length : Nat), .int .i64 sent, .int .i64 rd, .bool false] ∧
        Offered w b a lv (S ++ u.data.toList) (sent + u.size) rd ef ((((w'.setCell ⟨b, 0, none⟩ (.slice (some ⟨g, off, none⟩) (ps.length + 1) cap)).setCell ⟨b, 2, none⟩ (.int .i64 ((S.length : Int) + (u.size : Int)))).setCell ⟨b, 3, none⟩ (.int .i64 (sent + (u.size : Int)))).setCell ⟨b, 5, none⟩ (.bool ef)) := by
      intro g off cap w' hp' hgr hor
      have kb : Blk w' b 175 #[lv, .int .i64 a, .int .i64 (S.length : Nat), .int .i64 sent, .int .i64 rd, .bool false] := (Blk.alloc h.blk _).grown hgr (fun e => h.own e.symm)
      have ngb : g ≠ b := by
        rcases hor with e | e
        · exact fun e2 => h.own (by rw [e, e2])
        · simp at e; omega
      have hnb : (Value.slice (some (⟨g, off, none⟩ : Addr)) (ps.length + 1) cap).ownBlock ≠ some b := fun e => ngb (Option.some.inj e)
      have k := (((kb.set_ 0 (.slice (some ⟨g, off, none⟩) (ps.length + 1) cap)).set_ 2 (.int .i64 ((S.length : Int) + (u.size : Int)))).set_ 3 (.int .i64 (sent + (u.size : Int)))).set_ 5 (.bool ef)
      have hal : a ≤ (cat ps).length := by
        match ps, h with
        | [], h => rw [h.none_ rfl]; exact Nat.zero_le _
        | p :: ps', h =>
          have h2 := h.first p rfl
          have h3 : p.data.toList.length = p.size := rfl
          rw [cat_cons, List.length_append, h3]
          omega
      refine ⟨kb, _, ps ++ [u], ⟨?_, (((hp'.set_ hnb _ _).set_ hnb _ _).set_ hnb _ _).set_ hnb _ _, hnb, ?_, ?_, ?_, ?_⟩, ?_, ?_⟩
      · rw [List.length_append, hul, Int.natCast_add]; simpa using k
      · intro p hp
        match ps, h, hp with
        | [], h, hp =>
          simp at hp
          subst hp
          rw [h.none_ rfl]; exact hz
        | p' :: ps', h, hp => exact h.first p hp
      · intro e; simp at e
      · rw [cat_snoc, List.drop_append_of_le_length hal, h.bytes]
      · intro p hp
        rcases List.mem_append.1 hp with hp | hp
        · exact h.each p hp
        · simp at hp
          subst hp
          omega
      · rcases hor with e | e
        · exact .inl e.symm
        · refine .inr (fun g' hg' => ?_)
          obtain rfl : g = g' := Option.some.inj hg'
          simp at e
          omega
      · have t0 : Turned w w' b lv := ⟨hgr.os, hgr.tape, hgr.output, by have := hgr.size; simp at this; omega, fun i hi _ hr => (hgr.block i (by simp; omega) (fun e => hr e.symm)).trans (Below.heap_alloc w _ i hi)⟩
        exact ((t0.set_ 0 _).set_ 2 _ |>.set_ 3 _).set_ 5 _
    have HF := Lib.hid hfin
    have hpc : Pieces (w.alloc (.cells #[.string u] 9)) lv ps := h.pcs.later ((Below.refl _ _).alloc (Nat.le_refl _) _)
    clear hfin
    generalize Offered w b a lv (S ++ u.data.toList) (sent + u.size) rd ef = T at HF ⊢
    go_enter Tryz.func52, Tryz.ntmps52
    go_wp2_with (at_builtin; refine wpList_append_pieces _ rfl (.tmp 26) (.tmp 28) rfl lv ps u hpc rfl w.heap.size rfl ?cq (by omega) ?kk)
    case kk =>
      intro g off cap w' hp' hgr hor
      obtain ⟨kb, hT⟩ := HF.out g off cap w' hp' hgr (by simpa using hor)
      have HT := Lib.hid hT
      clear hT d0 hr hpc hp' hgr hor
      have d0 := kb.at6
      have hr := Below.refl w'.heap.size w'
      go_wp2_with fail
      go_ret
      exact ⟨rfl, HT.out⟩
end Go.Proofs.YtbhgmccaecmpjaaGreat
