/-
  Contracts of package wire, second part: bytes that come are put behind all others.
  Conditions: the wire's block is known whole; its pieces lie in a row.
-/
import Derived.Test.YtpnbcepljehogaaWire
import Derived.Test.YtpnbcepljehogaaLaw
import Derived.OwnWalk
import Derived.Laws.Strings
namespace Go.Proofs.Ytpnbcepljehogaa
open Go.RowKit

theorem infoStr : (Try.prog.info? 9).map (fun i => (i.zero, i.size, i.bytes)) = some (some (.string ⟨#[]⟩), 1, 16) := by kernel_rfl

theorem wpList_append_pieces (w : World) {ops : Array Oper} {rest : List Oper} {o : Oper} {a : Act} {Q : Exit → Act → World → Prop} (hg : o.guard = none) (s x : Operand)
    (hop : o.op = Op.call { callee := Callee.builtin Builtin.append, args := #[s, x], argTypes := #[83, 83] }) (lv : Value) (ps : List ByteArray) (u : ByteArray) (hp : Pieces w lv ps) (hs : a.eval s = lv)
    (q : Nat) (hx : a.eval x = .slice (some ⟨q, 0, none⟩) 1 1) (hq : w.cell? ⟨q, 0, none⟩ = some (.string u)) (hm : ps.length ≤ 1000000)
    (hK : ∀ g off cap w', Pieces w' (.slice (some ⟨g, off, none⟩) (ps.length + 1) cap) (ps ++ [u]) → w.grownBy w' lv.ownBlock → (lv.ownBlock = some g ∨ w.heap.size ≤ g) → wpList Try.prog ops Q rest (a.put o.dst (.slice (some ⟨g, off, none⟩) (ps.length + 1) cap)) w') :
    wpList Try.prog ops Q (o :: rest) a w := by
  obtain ⟨i0, hi, hz0, hz1, hz2⟩ := info_parts infoStr
  have c1 : ∀ j v, [Value.string u][j]? = some v → w.cell? ((⟨q, 0, none⟩ : Addr).add j) = some v := by
    intro j v hj
    match j, hj with
    | 0, hj => simp at hj; subst hj; simpa [Addr.add] using hq
  have c2 : ∀ v ∈ [Value.string u], v.oneCell' = true := by intro v hv; simp at hv; subst hv; rfl
  have grown : ∀ v' w', w'.ownsRow w.heap.size 9 1 v' (ps.length + 1) (ps.map Value.string ++ [.string u]) → w.grownBy w' none → wpList Try.prog ops Q rest (a.put o.dst v') w' := by
    intro v' w' hown hgr
    rcases hown.2 with ⟨_, h⟩ | ⟨g, cap', cur, rfl, hB, hb, h1, h2, h3, h4⟩
    · omega
    · refine hK g 0 cap' w' (.inr ⟨g, 0, cap', cur, by simp, hb, by simpa using h1, by omega, h2, fun i hi => ?_⟩) ⟨hgr.os, hgr.tape, hgr.output, hgr.size, fun i hi _ => hgr.block i hi (by simp)⟩ (.inr hB)
      have h5 : (cur.toList.take ((ps.length + 1) * 1))[i]? = some (.string (ps ++ [u])[i]) := by
        rw [h4, show ps.map Value.string ++ [Value.string u] = (ps ++ [u]).map Value.string by simp, List.getElem?_map, List.getElem?_eq_getElem hi]
        rfl
      rw [List.getElem?_take_of_lt (by simp at hi; omega)] at h5
      simpa using h5
  rcases hp with ⟨rfl, rfl⟩ | ⟨g, off, cap, cur, rfl, hb, h1, h2, h3, hc⟩
  · exact wpList_append_grows w hg s x 83 hop 9 i0 (.string ⟨#[]⟩) 1 16 Try.underlying83 hi hz0 hz1 hz2 rfl (by decide) none 0 0 [] hs (fun _ => ⟨rfl, rfl⟩) rfl (by intro _ h; cases h) ⟨q, 0, none⟩ 1 1 [.string u] hx rfl c1 c2 (by omega) (by unfold maxLen; omega) (by omega) (fun v' w' h k => grown v' w' (by simpa using h) k)
  · have hcell : ∀ j, j < cap → w.cell? ⟨g, off + j, none⟩ = cur[off + j]? := fun j _ => cell_of_row w g (off + j) cur _ _ hb
    refine wpList_append_arg w hg s x 83 hop 9 i0 (.string ⟨#[]⟩) 1 16 Try.underlying83 hi hz0 hz1 hz2 rfl (by decide) g off ps.length cap (ps.map Value.string) hs (by simp) ?_ ⟨q, 0, none⟩ 1 1 [.string u] hx rfl c1 c2 ?_ (by unfold maxLen; omega) (by omega) ?_ (fun hgt v' w' h k => grown v' w' h k)
    · intro j v hj
      rw [List.getElem?_map] at hj
      obtain ⟨p, hp, rfl⟩ := Option.map_eq_some_iff.1 hj
      obtain ⟨hlt, rfl⟩ := List.getElem?_eq_some_iff.1 hp
      rw [hcell j (by omega)]
      exact hc j hlt
    · intro hr j hj
      have hj0 : j = 0 := by simpa using hj
      subst hj0
      have hlt : off + ps.length < cur.size := by omega
      refine ⟨?_, ?_⟩
      · rw [Nat.mul_one, Nat.add_zero, hcell _ (by omega), Array.getElem?_eq_getElem hlt]; rfl
      · simp [World.frozen?, hb]
    · intro hr
      have hset : w.setCells g (off + ps.length * 1) [.string u] = w.setCell ⟨g, off + ps.length, none⟩ (.string u) := by simp [World.setCells]
      rw [hset]
      have hlt : g < w.heap.size := (Array.getElem?_eq_some_iff.1 hb).1
      refine hK g off cap _ (.inr ⟨g, off, cap, cur.setIfInBounds (off + ps.length) (.string u), by simp, ?_, by simp; omega, by simp; omega, h3, fun i hi => ?_⟩) ?_ (.inl rfl)
      · exact Blk.set_ (w := w) (g := g) (t := 9) hb (off + ps.length) (.string u)
      · have hi' : i < ps.length + 1 := by simpa using hi
        rcases Nat.lt_or_ge i ps.length with h | h
        · rw [Array.getElem?_setIfInBounds_ne (by omega), List.getElem_append_left h]
          exact hc i h
        · obtain rfl : i = ps.length := by omega
          rw [Array.getElem?_setIfInBounds_self_of_lt (by omega)]
          simp
      · exact only_cell ⟨rfl, rfl, rfl, Nat.le_refl _, fun _ _ _ => rfl⟩ _ _

/-- A wire in block b: the bytes that wait, how many came and were read, and whether the peer ended. -/
structure Wir (w : World) (b : Nat) (lv : Value) (S : List UInt8) (sent rd : Int) (eof : Bool) (a : Nat) (ps : List ByteArray) : Prop where
  blk : Blk w b 105 #[lv, .int .i64 a, .int .i64 (S.length : Nat), .int .i64 sent, .int .i64 rd, .bool eof]
  pcs : Pieces w lv ps
  own : lv.ownBlock ≠ some b
  first : ∀ p, ps[0]? = some p → a < p.size
  none_ : ps = [] → a = 0
  bytes : (cat ps).drop a = S
  each : ∀ p ∈ ps, 0 < p.size ∧ p.size ≤ 1000000

theorem cat_snoc (ps : List ByteArray) (u : ByteArray) : cat (ps ++ [u]) = cat ps ++ u.data.toList := by
  unfold cat; simp
/-- No more pieces than bytes. -/
theorem cat_len : ∀ (ps : List ByteArray), (∀ p ∈ ps, 0 < p.size) → ps.length ≤ (cat ps).length
  | [], _ => Nat.le_refl _
  | p :: ps, h => by
    have h1 := cat_len ps (fun q hq => h q (by simp [hq]))
    have h2 := h p (by simp)
    have h3 : p.data.toList.length = p.size := rfl
    rw [cat_cons, List.length_append, List.length_cons, h3]
    omega
theorem Wir.count {w : World} {b a : Nat} {lv : Value} {S : List UInt8} {sent rd : Int} {eof : Bool} {ps : List ByteArray} (h : Wir w b lv S sent rd eof a ps) : ps.length ≤ S.length + 1 := by
  match ps, h with
  | [], h => simp
  | p :: ps', h =>
    have h1 := cat_len ps' (fun q hq => (h.each q (by simp [hq])).1)
    have h2 := h.first p rfl
    have h3 : p.data.toList.length = p.size := rfl
    have h4 := congrArg List.length h.bytes
    rw [cat_cons, List.length_drop, List.length_append, h3] at h4
    rw [List.length_cons]
    omega

theorem wNew (w : World) : Calls Try.prog 50 #[] w fun e w' => e = .returned (.pointer (some ⟨w.heap.size, 0, none⟩)) ∧ Wir w' w.heap.size (.slice none 0 0) [] 0 0 false 0 [] ∧ Below w.heap.size w w' := by
  go_enter Try.func50, Try.ntmps50
  go_wp2
  go_ret
  exact ⟨rfl, ⟨Blk.new _ _ _, .inl ⟨rfl, rfl⟩, by simp [Value.ownBlock], by simp, fun _ => rfl, rfl, by simp⟩, (Below.refl _ _).alloc (Nat.le_refl _) _⟩

set_option maxHeartbeats 2000000 in
theorem wOffer0 (b a : Nat) (lv : Value) (S : List UInt8) (sent rd : Int) (eof ef : Bool) (ps : List ByteArray) (u : ByteArray) (w : World) (h : Wir w b lv S sent rd eof a ps) (hno : eof = true ∨ 4096 < u.size) :
    Calls Try.prog 51 #[.pointer (some ⟨b, 0, none⟩), .string u, .bool ef] w fun e w' => e = .returned (.bool false) ∧ w = w' := by
  have d0 := h.blk.at6
  have hr := Below.refl w.heap.size w
  go_enter Try.func51, Try.ntmps51
  cases eof with
  | true =>
    go_wp2_with fail
    go_ret
    exact ⟨rfl, rfl⟩
  | false =>
    have h1 : 4096 < u.size := by simpa using hno
    have h2 : (4096 : Int) < (u.size : Int) := by omega
    go_wp2_with fail
    go_ret
    exact ⟨rfl, rfl⟩

theorem strEmpty {b : ByteArray} (h : b.size = 0) : b = ⟨#[]⟩ := by
  apply ByteArray.ext
  exact Array.eq_empty_of_size_eq_zero h
theorem strSome {b : ByteArray} (h : 0 < b.size) : b.toList.isEmpty = false := by
  rw [ByteArray.toList_eq]
  cases hl : b.data.toList with
  | nil =>
    have : b.data.toList.length = b.size := rfl
    rw [hl] at this
    simp at this
    omega
  | cons _ _ => rfl

/-- Nothing turned but block b and the row that lv lies in. -/
structure Turned (w w' : World) (b : Nat) (lv : Value) : Prop where
  os : w'.os = w.os
  tape : w'.tape = w.tape
  output : w'.output = w.output
  size : w.heap.size ≤ w'.heap.size
  block : ∀ i, i < w.heap.size → i ≠ b → lv.ownBlock ≠ some i → w'.heap[i]? = w.heap[i]?
theorem Turned.of {w w' : World} {b : Nat} {lv : Value} (h : w.grownBy w' (some b)) : Turned w w' b lv := ⟨h.os, h.tape, h.output, h.size, fun i hi hb _ => h.block i hi (fun e => hb (Option.some.inj e))⟩
theorem Turned.row {w w' : World} {b : Nat} {lv : Value} (h : w.grownBy w' lv.ownBlock) : Turned w w' b lv := ⟨h.os, h.tape, h.output, h.size, fun i hi _ hr => h.block i hi (fun e => hr e.symm)⟩
theorem Turned.set_ {w w' : World} {b : Nat} {lv : Value} (h : Turned w w' b lv) (i : Nat) (u : Value) : Turned w (w'.setCell ⟨b, i, none⟩ u) b lv :=
  ⟨h.os, h.tape, h.output, by simpa [World.setCell] using h.size, fun j hj hb hr => (Below.heap_setCell w' ⟨b, i, none⟩ u j hb).trans (h.block j hj hb hr)⟩
theorem Turned.trans {w w' w2 : World} {b : Nat} {lv lv' : Value} (h : Turned w w' b lv) (k : Turned w' w2 b lv') (hl : lv'.ownBlock = lv.ownBlock ∨ ∀ g, lv'.ownBlock = some g → w.heap.size ≤ g) : Turned w w2 b lv :=
  ⟨k.os.trans h.os, k.tape.trans h.tape, k.output.trans h.output, Nat.le_trans h.size k.size, fun i hi hb hr => (k.block i (Nat.lt_of_lt_of_le hi h.size) hb (fun e => by
    rcases hl with hl | hl
    · exact hr (hl.symm.trans e)
    · have := hl i e; omega)).trans (h.block i hi hb hr)⟩

def Offered (w : World) (b a : Nat) (lv : Value) (S : List UInt8) (sent rd : Int) (eof : Bool) (w' : World) : Prop :=
  ∃ lv' ps', Wir w' b lv' S sent rd eof a ps' ∧ (lv'.ownBlock = lv.ownBlock ∨ ∀ g, lv'.ownBlock = some g → w.heap.size ≤ g) ∧ Turned w w' b lv

set_option maxHeartbeats 4000000 in
set_option maxRecDepth 100000 in
theorem wOffer1 (b a : Nat) (lv : Value) (S : List UInt8) (sent rd : Int) (ef : Bool) (ps : List ByteArray) (u : ByteArray) (w : World) (h : Wir w b lv S sent rd false a ps) (hu : u.size ≤ 4096) (hS : S.length ≤ 500000) (hse : 0 ≤ sent ∧ sent ≤ 500000) :
    Calls Try.prog 51 #[.pointer (some ⟨b, 0, none⟩), .string u, .bool ef] w fun e w' => e = .returned (.bool true) ∧ Offered w b a lv (S ++ u.data.toList) (sent + u.size) rd ef w' := by
  have d0 := h.blk.at6
  have hr := Below.refl w.heap.size w
  have hc := h.count
  have h1 : ¬ (4096 : Int) < (u.size : Int) := by omega
  have hul : u.data.toList.length = u.size := rfl
  have s1 : IntKind.i64.wrap ((S.length : Int) + (u.size : Int)) = (S.length : Int) + (u.size : Int) := IntWalk.i64_in _ (by omega)
  have s2 : IntKind.i64.wrap (sent + (u.size : Int)) = sent + (u.size : Int) := IntWalk.i64_in _ (by omega)
  rcases Nat.eq_zero_or_pos u.size with hz | hz
  · obtain rfl := strEmpty hz
    rw [show S ++ (⟨#[]⟩ : ByteArray).data.toList = S by simp]
    have hz0 : (0 : Int) + 0 = 0 := rfl
    have hw : ∀ w', w' = ((w.setCell ⟨b, 2, none⟩ (.int .i64 (S.length : Nat))).setCell ⟨b, 3, none⟩ (.int .i64 sent)).setCell ⟨b, 5, none⟩ (.bool ef) → Offered w b a lv S (sent + ((⟨#[]⟩ : ByteArray).size : Nat)) rd ef w' := by
      rintro w' rfl
      have he : sent + (((⟨#[]⟩ : ByteArray).size : Nat) : Int) = sent := by show sent + 0 = sent; omega
      rw [he]
      have k := ((h.blk.set_ 2 (.int .i64 (S.length : Nat))).set_ 3 (.int .i64 sent)).set_ 5 (.bool ef)
      exact ⟨lv, ps, ⟨by simpa using k, ((h.pcs.set_ h.own _ _).set_ h.own _ _).set_ h.own _ _, h.own, h.first, h.none_, h.bytes, h.each⟩, .inl rfl, ((Turned.of ⟨rfl, rfl, rfl, Nat.le_refl _, fun _ _ _ => rfl⟩).set_ 2 _ |>.set_ 3 _).set_ 5 _⟩
    have HW := Lib.hid hw
    clear hw hz0
    generalize Offered w b a lv S (sent + ((⟨#[]⟩ : ByteArray).size : Nat)) rd ef = T at HW ⊢
    go_enter Try.func51, Try.ntmps51
    go_wp2_with fail
    go_ret
    exact ⟨rfl, HW.out _ rfl⟩
  · have h2 := strSome hz
    have lb := h.blk.lt
    have hfin : ∀ g off cap w', Pieces w' (.slice (some ⟨g, off, none⟩) (ps.length + 1) cap) (ps ++ [u]) → (w.alloc (.cells #[.string u] 9)).grownBy w' lv.ownBlock → (lv.ownBlock = some g ∨ (w.alloc (.cells #[.string u] 9)).heap.size ≤ g) →
        Blk w' b 105 #[lv, .int .i64 a, .int .i64 (S.length : Nat), .int .i64 sent, .int .i64 rd, .bool false] ∧
        Offered w b a lv (S ++ u.data.toList) (sent + u.size) rd ef ((((w'.setCell ⟨b, 0, none⟩ (.slice (some ⟨g, off, none⟩) (ps.length + 1) cap)).setCell ⟨b, 2, none⟩ (.int .i64 ((S.length : Int) + (u.size : Int)))).setCell ⟨b, 3, none⟩ (.int .i64 (sent + (u.size : Int)))).setCell ⟨b, 5, none⟩ (.bool ef)) := by
      intro g off cap w' hp' hgr hor
      have kb : Blk w' b 105 #[lv, .int .i64 a, .int .i64 (S.length : Nat), .int .i64 sent, .int .i64 rd, .bool false] := (Blk.alloc h.blk _).grown hgr (fun e => h.own e.symm)
      have ngb : g ≠ b := by
        rcases hor with e | e
        · exact fun e2 => h.own (by rw [e, e2])
        · simp at e; omega
      have hnb : (Value.slice (some (⟨g, off, none⟩ : Addr)) (ps.length + 1) cap).ownBlock ≠ some b := fun e => ngb (Option.some.inj e)
      have k := (((kb.set_ 0 (.slice (some ⟨g, off, none⟩) (ps.length + 1) cap)).set_ 2 (.int .i64 ((S.length : Int) + (u.size : Int)))).set_ 3 (.int .i64 (sent + (u.size : Int)))).set_ 5 (.bool ef)
      have hal : a ≤ (cat ps).length := by
        match ps, h with
        | [], h => rw [h.none_ rfl]; exact Nat.zero_le _
        | p :: ps', h =>
          have h2 := h.first p rfl
          have h3 : p.data.toList.length = p.size := rfl
          rw [cat_cons, List.length_append, h3]
          omega
      refine ⟨kb, _, ps ++ [u], ⟨?_, (((hp'.set_ hnb _ _).set_ hnb _ _).set_ hnb _ _).set_ hnb _ _, hnb, ?_, ?_, ?_, ?_⟩, ?_, ?_⟩
      · rw [List.length_append, hul, Int.natCast_add]; simpa using k
      · intro p hp
        match ps, h, hp with
        | [], h, hp =>
          simp at hp
          subst hp
          rw [h.none_ rfl]; exact hz
        | p' :: ps', h, hp => exact h.first p hp
      · intro e; simp at e
      · rw [cat_snoc, List.drop_append_of_le_length hal, h.bytes]
      · intro p hp
        rcases List.mem_append.1 hp with hp | hp
        · exact h.each p hp
        · simp at hp
          subst hp
          omega
      · rcases hor with e | e
        · exact .inl e.symm
        · refine .inr (fun g' hg' => ?_)
          obtain rfl : g = g' := Option.some.inj hg'
          simp at e
          omega
      · have t0 : Turned w w' b lv := ⟨hgr.os, hgr.tape, hgr.output, by have := hgr.size; simp at this; omega, fun i hi _ hr => (hgr.block i (by simp; omega) (fun e => hr e.symm)).trans (Below.heap_alloc w _ i hi)⟩
        exact ((t0.set_ 0 _).set_ 2 _ |>.set_ 3 _).set_ 5 _
    have HF := Lib.hid hfin
    have hpc : Pieces (w.alloc (.cells #[.string u] 9)) lv ps := h.pcs.later ((Below.refl _ _).alloc (Nat.le_refl _) _)
    clear hfin
    generalize Offered w b a lv (S ++ u.data.toList) (sent + u.size) rd ef = T at HF ⊢
    go_enter Try.func51, Try.ntmps51
    go_wp2_with (at_builtin; refine wpList_append_pieces _ rfl (.tmp 26) (.tmp 28) rfl lv ps u hpc rfl w.heap.size rfl ?cq (by omega) ?kk)
    case kk =>
      intro g off cap w' hp' hgr hor
      obtain ⟨kb, hT⟩ := HF.out g off cap w' hp' hgr (by simpa using hor)
      have HT := Lib.hid hT
      clear hT d0 hr hpc hp' hgr hor
      have d0 := kb.at6
      have hr := Below.refl w'.heap.size w'
      go_wp2_with fail
      go_ret
      exact ⟨rfl, HT.out⟩
end Go.Proofs.Ytpnbcepljehogaa
