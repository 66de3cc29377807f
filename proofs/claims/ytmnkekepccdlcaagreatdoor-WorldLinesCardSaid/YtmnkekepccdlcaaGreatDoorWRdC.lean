/-
  One line of rounds, as the reference reads it.
  Conditions: the rounds lie in a row, at most 10000 of them; the line is not empty and has at most 50000 bytes.
-/
import Derived.Test.YtmnkekepccdlcaaGreatDoorWRdB
import Derived.Test.YtmnkekepccdlcaaGreatDoorWorldG
import Derived.Test.YtmnkekepccdlcaaGreatDoorWorldH
import Derived.Test.YtmnkekepccdlcaaGreatDoorWMk
import Derived.Test.YtmnkekepccdlcaaGreatDoorRegL
import Derived.Deep.RegionLaw
import Derived.Deep.CutBlock
namespace Go.Proofs.YtmnkekepccdlcaaGreatDoor
set_option linter.unusedVariables false
set_option linter.unusedSimpArgs false
open Go.RowKit

/-- What a line leaves, as the reference reads it. -/
def LnPost (B K : Nat) (w : World) (X : Res (List Rd)) (e : Ending) (w' : World) : Prop := Stp B w w' ∧ match X with
  | .ok rs => Sml (K + 1) rs ∧ rs.length ≤ 10000 ∧ ∃ ao cap l, l.map Prod.snd = rs ∧ e = .returned (.tuple #[.slice ao l.length cap, .int .i64 0, .int .i64 0]) ∧ Stt B w' ao cap l
  | .error (c, er) => er ≠ 0 ∧ ∃ v, e = .returned (.tuple #[v, .int .i64 (c : Nat), .int .i64 er])
theorem wrong_bd {c : UInt8} {x : Wd} : 0 ≤ (wrongT c x).1 ∧ (wrongT c x).1 ≤ 1000000000000 := by
  unfold wrongT
  split
  · simp
  · split
    · split <;> simp
    · have ht : 0 ≤ topT c ∧ topT c ≤ 1000000000000 := by unfold topT; split <;> (try split) <;> (try split) <;> simp
      have := numW_bd (topT c) x.text ht.1
      omega
theorem say_len {rs : List Rd} {x : Wd} {p : Int × Int × List UInt8} (h0 : placeT rs x = 0) (hx : x.text ∈ kWords) (hn : rs.length ≤ 10000) : (doT x.text p rs).length ≤ 10000 := by
  have hu : ∀ f, (upd rs f).length ≤ 10000 := fun f => by
    unfold upd
    rw [List.length_append, List.length_dropLast]
    cases h : rs.getLast? with
    | none => simp; omega
    | some r =>
      have : rs ≠ [] := fun e => by rw [e] at h; cases h
      have := List.length_pos_iff.2 this
      simp; omega
  unfold doT
  split
  · rename_i ht
    rw [List.length_append]
    have : rs.length ≠ 10000 := fun e => by
      unfold placeT at h0
      split at h0
      · cases h0
      · rw [if_pos ⟨ht, e⟩] at h0
        cases h0
    simp; omega
  all_goals (repeat' (split)) <;> exact hu _
theorem arg_none {F : List UInt8} {W : List Wd} {len k : Nat} {e : Nat × Int} {rs : List Rd} {x : Wd} {R : List Wd} (hW : W = x :: R) (h0 : placeT rs x = 0) (hF : shapeT x.text = some F) (h : argT F W len k = .error e) (hk : k ≤ F.length) : sayT rs W len = .error e := by
  rw [say_ref hW h0 hF, arg_to h hk]; rfl
theorem Live.all6 {B B1 cap g : Nat} {w : World} {l : List (Hd × Rd)} {c : List Value} {h : Hd} {r : Rd} (i : Live B B1 w (some ⟨g, 0, none⟩) cap l c h r) (x0 x1 x2 x3 x4 x5 : Value) :
    Live B B1 ((((((w.setCell ⟨g, l.length * 6, none⟩ x0).setCell ⟨g, l.length * 6 + 1, none⟩ x1).setCell ⟨g, l.length * 6 + 2, none⟩ x2).setCell ⟨g, l.length * 6 + 3, none⟩ x3).setCell ⟨g, l.length * 6 + 4, none⟩ x4).setCell ⟨g, l.length * 6 + 5, none⟩ x5) (some ⟨g, 0, none⟩) cap l [x0, x1, x2, x3, x4, x5] h r := by
  obtain ⟨a0, a1, a2, a3, a4, a5, rfl⟩ : ∃ a0 a1 a2 a3 a4 a5, c = [a0, a1, a2, a3, a4, a5] := by
    have := i.len
    match c, this with
    | [a0, a1, a2, a3, a4, a5], _ => exact ⟨_, _, _, _, _, _, rfl⟩
  exact (((((i.set_ 0 x0).set_ 1 x1).set_ 2 x2).set_ 3 x3).set_ 4 x4).set_ 5 x5
theorem grown6 {w : World} {g n : Nat} (x0 x1 x2 x3 x4 x5 : Value) : w.grownBy ((((((w.setCell ⟨g, n, none⟩ x0).setCell ⟨g, n + 1, none⟩ x1).setCell ⟨g, n + 2, none⟩ x2).setCell ⟨g, n + 3, none⟩ x3).setCell ⟨g, n + 4, none⟩ x4).setCell ⟨g, n + 5, none⟩ x5) (some g) :=
  only_setCell (p := ⟨g, n + 5, none⟩) (only_setCell (p := ⟨g, n + 4, none⟩) (only_setCell (p := ⟨g, n + 3, none⟩) (only_setCell (p := ⟨g, n + 2, none⟩) (only_setCell (p := ⟨g, n + 1, none⟩) (only_setCell (p := ⟨g, n, none⟩) (only_below (Below.refl w.heap.size w) (some g)) (.inl rfl) x0) (.inl rfl) x1) (.inl rfl) x2) (.inl rfl) x3) (.inl rfl) x4) (.inl rfl) x5

theorem Stp.blk {B b : Nat} {w w' : World} {t : TypeId} {cs : Array Value} (ht : t ≠ 9) (hb : Blk w b t cs) (hg : w.grownBy w' (some b)) (hB : B ≤ b) : Stp B w w' :=
  ⟨only_to hg (Nat.le_trans hB (Nat.le_of_lt hb.lt)) hB, fun g c e => (hg.block g (Array.getElem?_eq_some_iff.1 e).1 (by
    rintro ⟨⟩
    unfold Blk at hb
    rw [e] at hb
    cases hb
    exact ht rfl)).trans e⟩
theorem Live.aside {B B1 cap g b : Nat} {w w' : World} {l : List (Hd × Rd)} {c : List Value} {h : Hd} {r : Rd} {cs : Array Value} (i : Live B B1 w (some ⟨g, 0, none⟩) cap l c h r) (hb : Blk w b 59 cs) (hg : w.grownBy w' (some b)) (h1 : g ≠ b) (h2 : B1 ≤ b) :
    Live B B1 w' (some ⟨g, 0, none⟩) cap l c h r := by
  refine i.same hg.size (fun g2 e => ?_) (fun q hq g2 hgg => ?_) (fun g2 hgg => ?_)
  · have e2 : g = g2 := Option.some.inj e
    subst e2
    exact hg.block _ (World.ownsRow.lt i.row g rfl).2 (fun e => h1 (Option.some.inj e))
  · exact hg.block g2 ((i.old q hq).1.lt hgg).2 (fun e => by
      have := (i.old q hq).2 g2 hgg
      have := Option.some.inj e
      omega)
  · refine hg.block g2 (i.cur.lt hgg).2 (fun e => ?_)
    have e2 := Option.some.inj e
    subst e2
    exact i.cur.off hb (by decide) (by decide) (by decide) hgg
/-- The copy of the last round, stored into. -/
theorem line_put {B B1 cap g b : Nat} {w : World} {l : List (Hd × Rd)} {c : List Value} {h' : Hd} {r' : Rd} {cs : List Value} (i : Live B B1 w (some ⟨g, 0, none⟩) cap l c h' r') (hb : Blk w b 59 cs.toArray) (h1 : g ≠ b) (h2 : B1 ≤ b) (h3 : B ≤ b) (j : Nat) (x : Value) (hx : cs.set j x = rC h' r') :
    Live B B1 (w.setCell ⟨b, j, none⟩ x) (some ⟨g, 0, none⟩) cap l c h' r' ∧ Blk (w.setCell ⟨b, j, none⟩ x) b 59 (rC h' r').toArray ∧ Stp B w (w.setCell ⟨b, j, none⟩ x) := by
  have hg : w.grownBy (w.setCell ⟨b, j, none⟩ x) (some b) := only_setCell (p := ⟨b, j, none⟩) (only_below (Below.refl _ _) _) (.inl rfl) _
  refine ⟨i.aside hb hg h1 h2, ?_, Stp.blk (by decide) hb hg h3⟩
  have := hb.set_ j x
  rw [List.setIfInBounds_toArray, hx] at this
  exact this
theorem copy_grown {B b k n : Nat} {w w' : World} {t : TypeId} {v : Value} {xs : List Value} {cs : Array Value} {o : Obj} (hb : Blk w b 59 cs) (ho : ORow t k B w.drew v n xs) (ht : t ≠ 59) (hg : (w.drew.alloc o).grownBy w' v.ownBlock) : Blk w' b 59 cs :=
  Blk.grown (Blk.alloc (Blk.drew hb) o) hg (fun e => orow_off (World.ownsRow.alloc ho o) (Blk.alloc (Blk.drew hb) o) ht e.symm)
theorem blk_grown {B b k n : Nat} {w w' : World} {t t' : TypeId} {v : Value} {xs : List Value} {cs : Array Value} {o : Obj} (hb : Blk w b t' cs) (ho : ORow t k B w.drew v n xs) (ht : t ≠ t') (hg : (w.drew.alloc o).grownBy w' v.ownBlock) : Blk w' b t' cs :=
  Blk.grown (Blk.alloc (Blk.drew hb) o) hg (fun e => orow_off (World.ownsRow.alloc ho o) (Blk.alloc (Blk.drew hb) o) ht e.symm)
/-- append of one element onto a row of the call's own, met alone. -/
theorem wp_append1 {P : Program} {e te : TypeId} {k B : Nat} {z : Value} {bytes : Nat} {o : Oper} {a : Act} {w : World} {K : Act → World → Prop} {Q : Exit → Act → World → Prop}
    (infoE : (P.info? e).map (fun i => (i.zero, i.size, i.bytes)) = some (some z, k, bytes)) (hz : z.cells.size = k) (hk : 0 < k) (hby : bytes ≤ 1000) (hte : P.underlying te = some (.slice e))
    (hg : o.guard = none) (s x : Operand) (hop : o.op = Op.call { callee := Callee.builtin Builtin.append, args := #[s, x], argTypes := #[te, te] }) (v : Value) (n : Nat) (xs : List Value) (hs : a.eval s = v) (h : ORow e k B w v n xs)
    (q : Nat) (hx : a.eval x = .slice (some ⟨q, 0, none⟩) 1 1) (news : List Value) (hl : news.length = k) (hq : ∀ j u, news[j]? = some u → w.cell? ⟨q, j, none⟩ = some u) (h1 : ∀ u ∈ news, u.oneCell' = true) (hm : n ≤ 1000000) (hB : B ≤ w.heap.size)
    (hK : ∀ ao cap w', ORow e k B w' (.slice ao (n + 1) cap) (n + 1) (xs ++ news) → w.grownBy w' v.ownBlock → K (a.put o.dst (.slice ao (n + 1) cap)) w') : Oper.wp P o a w K Q := by
  have key := step_append (ops := #[]) (Q := Q) (E := True) infoE hz hk hby hte hg s x hop v n xs hs h q hx news hl hq h1 hm hB hK
  have hw : Region.wanted o (yielded #[] a.tmps) = true := by simp [Region.wanted, hg]
  rwa [if_pos hw] at key
/-- The last round, stored whole. -/
theorem line_end {B B1 cap g : Nat} {w : World} {l : List (Hd × Rd)} {c : List Value} {h : Hd} {r : Rd} (i : Live B B1 w (some ⟨g, 0, none⟩) cap l c h r) (w' : World)
    (hw : ((((((w.setCell ⟨g, l.length * 6, none⟩ (.int .i64 r.ticks)).setCell ⟨g, l.length * 6 + 1, none⟩ (.slice h.oa r.opens.length h.oc)).setCell ⟨g, l.length * 6 + 2, none⟩ (.slice h.fa r.offers.length h.fc)).setCell ⟨g, l.length * 6 + 3, none⟩ (.slice h.pa r.reports.length h.pc)).setCell ⟨g, l.length * 6 + 4, none⟩ (.int .i64 r.drain)).setCell ⟨g, l.length * 6 + 5, none⟩ (.bool r.abort)) = w') :
    Live B B1 w' (some ⟨g, 0, none⟩) cap l (rC h r) h r ∧ Stp B w w' := by
  subst hw
  exact ⟨i.all6 _ _ _ _ _ _, Stp.row i.row (grown6 _ _ _ _ _ _) (by decide) (Nat.le_refl _) (Nat.le_trans i.lo i.hi)⟩

set_option maxHeartbeats 16000000 in
set_option maxRecDepth 100000 in
theorem gRead (s : ByteArray) (l : List (Hd × Rd)) (ao : Option Addr) (cap B K : Nat) (w : World) (hs : s.size ≤ 50000) (hne : s.data.toList ≠ []) (hS : Stt B w ao cap l) (hM : Sml K (l.map Prod.snd)) (hK : K ≤ 100000) (hl : l.length ≤ 10000) (hB : B ≤ w.heap.size) :
    Calls Tryz.prog 59 #[.slice ao l.length cap, .string s] w (LnPost B K w (lineR (l.map Prod.snd) s.data.toList)) := by
  have FW := yWords s (by omega) w
  have hsl : s.data.toList.length = s.size := rfl
  have HS := Lib.hid hS
  clear hS
  rcases words_facts hne (by omega) with ⟨W, hw, hcc, hW0, hW1, hW2⟩ | ⟨c, er, hw, he0, hc⟩
  case inr =>
    rw [hw] at FW
    have FW := Lib.hid FW
    have HX : Hid (lineR (l.map Prod.snd) s.data.toList = .error (c, er)) := Lib.hid (by unfold lineR; rw [hw])
    have heb := ne_b he0
    clear hw hne hsl
    go_enter Tryz.func59, Tryz.ntmps59
    go_wp2_with fail
    refine FW.out.mono ?_; rintro e w1 ⟨wo, wcap, he1, -, b1⟩
    simp only [Option.getD_none, List.length_nil] at he1
    subst he1
    go_wp2_with fail
    go_ret3
    exact ⟨Stp.later b1 hB, by rw [HX.out]; exact ⟨he0, _, rfl⟩⟩
  case inl =>
  rw [hw] at FW
  have FW := Lib.hid FW
  have HX : lineR (l.map Prod.snd) s.data.toList = sayT (l.map Prod.snd) W s.size := by unfold lineR; rw [hw]; rfl
  rw [HX]
  obtain ⟨⟨tx, qx, px⟩, Wr, hWc⟩ : ∃ x Wr, W = x :: Wr := by
    cases W with
    | nil => exact absurd rfl hW0
    | cons x Wr => exact ⟨x, Wr, rfl⟩
  generalize (wordsT s.data.toList).2.1 = c0 at *
  have HP : Hid (∀ w', Below w.heap.size w w' → Calls Tryz.prog 89 #[.slice ao l.length cap, .agg (wcells ⟨tx, qx, px⟩).toArray] w' fun e w'' => e = .returned (.int .i64 (placeT (l.map Prod.snd) ⟨tx, qx, px⟩)) ∧ Below w'.heap.size w' w'') := Lib.hid fun w' h => gPlace ⟨tx, qx, px⟩ l ao cap B w' (HS.out.rnds.later h) hl
  have HSH : Hid (∀ w', Calls Tryz.prog 90 #[.string (bt tx)] w' fun e w'' => e = .returned (.tuple #[.string (bt ((shapeT tx).getD [])), .bool (shapeT tx).isSome]) ∧ Below w'.heap.size w' w'') := Lib.hid fun w' => gShape tx w'
  have hwl : (0 : Int) < (W.length : Int) := by rw [hWc]; simp
  have HWC := Lib.hid hWc
  have HOW : Hid (∀ (w1 : World) (wo : Option Addr) (wcap : Nat), OW 123 w.heap.size w1 wo wcap W → ∃ gw, wo = some ⟨gw, 0, none⟩ ∧ gw < w1.heap.size ∧ ∀ w', Below w1.heap.size w1 w' → w'.cell? ⟨gw, 0, none⟩ = some (.string (bt tx)) ∧ w'.cell? ⟨gw, 1, none⟩ = some (.bool qx) ∧ w'.cell? ⟨gw, 2, none⟩ = some (.int .i64 (px : Nat))) := Lib.hid fun w1 wo wcap h => by
    have hWc := HWC.out
    subst hWc
    obtain ⟨gw, e, hgw, d⟩ := ow_at h 0 (by simp)
    exact ⟨gw, e, hgw, fun w' hw => by simpa using d w' hw⟩
  have HW2 := Lib.hid hW2
  have HHW := Lib.hid hw
  simp only [wcells] at HP
  clear hw hne hsl HX hW2 hW0 hWc
  by_cases hp : placeT (l.map Prod.snd) ⟨tx, qx, px⟩ = 0
  case neg =>
    have HX : Hid (sayT (l.map Prod.snd) W s.size = .error (0, placeT (l.map Prod.snd) ⟨tx, qx, px⟩)) := Lib.hid (by
      rw [HWC.out]
      unfold sayT
      simp only [List.headD_cons]
      exact if_pos hp)
    have HN := Lib.hid hp
    have hpb := ne_b hp
    generalize placeT (l.map Prod.snd) ⟨tx, qx, px⟩ = pe at *
    clear hp
    go_enter Tryz.func59, Tryz.ntmps59
    go_wp2_with fail
    refine FW.out.mono ?_; rintro e w1 ⟨wo, wcap, he1, how, b1⟩
    simp only [Option.getD_some] at he1 how
    subst he1
    obtain ⟨gw, rfl, hgw, dW⟩ := HOW.out w1 wo wcap how
    have hr := Below.refl w1.heap.size w1
    have FP := Lib.hid (HP.out w1 b1)
    clear how hgw
    go_wp2_with fail
    refine FP.out.mono ?_; rintro e w2 ⟨rfl, b2⟩
    have t2 := Stp.later (b1.up b2) hB
    clear dW hr
    go_wp2_with fail
    go_ret3
    exact ⟨t2, by rw [HX.out]; exact ⟨HN.out, _, rfl⟩⟩
  case pos =>
  obtain ⟨hq, hm, hne⟩ := place_kind (l.map Prod.snd) ⟨tx, qx, px⟩ hp
  simp only at hq hm hne
  subst hq
  rw [hp] at HP
  obtain ⟨F, hF⟩ : ∃ F, shapeT tx = some F := by
    have := shape_mem hm
    cases h : shapeT tx with
    | none => rw [h] at this; cases this
    | some F => exact ⟨F, rfl⟩
  have hFF : F.length ≤ 2 ∧ ∀ c ∈ F, c = 116 ∨ c = 115 ∨ c = 105 ∨ c = 110 ∨ c = 113 := by
    simp only [kWords, List.mem_cons, List.not_mem_nil, or_false] at hm
    rcases hm with rfl | rfl | rfl | rfl | rfl | rfl | rfl | rfl | rfl <;> (cases hF; decide)
  obtain ⟨hF2, hFc⟩ := hFF
  have HFC := Lib.hid hFc
  have HF := Lib.hid hF
  have HPL := Lib.hid hp
  have HM := Lib.hid hm
  have HNE := Lib.hid hne
  rw [hF] at HSH
  simp only [Option.getD_some, Option.isSome_some] at HSH
  obtain ⟨FS, hFS⟩ : ∃ FS, bt F = FS := ⟨_, rfl⟩
  have hfz : FS.size = F.length := by rw [← hFS]; rfl
  have HFK : Hid (∀ k (h : k < FS.size), FS[k] = F.getD k 0) := Lib.hid (by
    subst hFS
    intro k h
    have h' : k < F.length := by rw [← hfz]; exact h
    rw [List.getD_eq_getElem?_getD, List.getElem?_eq_getElem h']
    rfl)
  rw [hFS] at HSH
  clear hF hp hm hne hFc hFS
  have HFZ := Lib.hid hfz
  have hf2 : FS.size ≤ 2 := by omega
  clear hF2 hfz
  go_enter Tryz.func59, Tryz.ntmps59
  go_wp2_with fail
  refine FW.out.mono ?_; rintro e w1 ⟨wo, wcap, he1, how, b1⟩
  simp only [Option.getD_some] at he1 how
  subst he1
  obtain ⟨gw, rfl, hgw, dW⟩ := HOW.out w1 wo wcap how
  have hr := Below.refl w1.heap.size w1
  have FP := Lib.hid (HP.out w1 b1)
  have OW1 := Lib.hid how
  clear how hgw HOW FW
  go_wp2_with fail
  refine FP.out.mono ?_; rintro e w2 ⟨rfl, b2⟩
  have dW2 := fun w' (h : Below w2.heap.size w2 w') => dW w' (b2.up h)
  have hr2 := Below.refl w2.heap.size w2
  have FQ := Lib.hid (HSH.out w2)
  clear FP HP dW hr
  go_wp2_with fail
  refine FQ.out.mono ?_; rintro e w3 ⟨rfl, b3⟩
  have dW := fun w' (h : Below w3.heap.size w3 w') => dW2 w' (b3.up h)
  have hb13 := b2.up b3
  have HB3 := Lib.hid (b1.up hb13)
  have OW3 := Lib.hid (ow_later OW1.out hb13)
  clear FQ dW2 hr2 HSH b1 b2 b3 OW1 hb13
  go_upto_region 9 with fail
  obtain ⟨w4, hw4⟩ : ∃ w4, w3.alloc (.cells #[.int .i64 0, .int .i64 0] 2) = w4 := ⟨_, rfl⟩
  have k4 : Blk w4 w3.heap.size 2 #[.int .i64 0, .int .i64 0] := by rw [← hw4]; exact Blk.new _ _ _
  have b4 : Below w3.heap.size w3 w4 := by rw [← hw4]; exact (Below.refl _ _).alloc (Nat.le_refl _) _
  rw [hw4]
  have K4 := Lib.hid k4
  have HB4 := Lib.hid b4
  clear hw4 k4 b4
  go_upto_block 0 with fail
  go_cut [14] (fun bv wx => ∃ (n0 n1 : Int) (b : List UInt8), bv = .string (bt b) ∧ Hid (argT F W s.size F.length = .ok (n0, n1, b)) ∧ (0 ≤ n0 ∧ n0 ≤ 1000000000000) ∧ (0 ≤ n1 ∧ n1 ≤ 1000000000000) ∧ Hid (Blk wx w3.heap.size 2 #[.int .i64 n0, .int .i64 n1]) ∧ Hid (Below w3.heap.size w3 wx))
  case first =>
    go_wp2_with fail
    go_loopw [14, 15] (fun bv iv wr => ∃ (k : Nat) (n0 n1 : Int) (b : List UInt8), iv = .int .i64 k ∧ k ≤ FS.size ∧ bv = .string (bt b) ∧ Hid (argT F W s.size k = .ok (n0, n1, b)) ∧ (0 ≤ n0 ∧ n0 ≤ 1000000000000) ∧ (0 ≤ n1 ∧ n1 ≤ 1000000000000) ∧ Hid (Blk wr w3.heap.size 2 #[.int .i64 n0, .int .i64 n1]) ∧ Hid (Below w3.heap.size w3 wr)) (fun _ iv _ => FS.size - (intOf iv).toNat)
    case atStart => exact ⟨0, 0, 0, [], rfl, Nat.zero_le _, rfl, Lib.hid rfl, by decide, by decide, K4, HB4⟩
    case round =>
      obtain ⟨k, n0, n1, b, rfl, hk, rfl, hA, hn0, hn1, hKb, hBr⟩ := hrel
      have HN0 := Lib.hid hn0
      have HN1 := Lib.hid hn1
      clear hn0 hn1 K4 HB4
      have e0 : (0 : Int) ≤ (k : Int) := by omega
      obtain ⟨bb, hbb⟩ : ∃ bb, bt b = bb := ⟨_, rfl⟩
      rw [hbb]
      have HBB := Lib.hid hbb
      clear hbb
      have hr := Below.refl wr.heap.size wr
      by_cases hlt : k < FS.size
      case neg =>
        obtain rfl : k = FS.size := by omega
        have e1 : ¬ ((FS.size : Int) < (FS.size : Int)) := by omega
        go_wp2_with fail
        go_meet
        exact ⟨n0, n1, b, by rw [HBB.out], by rw [← HFZ.out]; exact hA, HN0.out, HN1.out, hKb, hBr⟩
      case pos =>
        have e1 : (k : Int) < (FS.size : Int) := by omega
        have hk2 : k < F.length := by rw [← HFZ.out]; exact hlt
        have s1 : IntKind.i64.wrap ((k : Int) + 1) = ((k + 1 : Nat) : Int) := by rw [IntWalk.i64_in _ (by omega)]; omega
        by_cases hw : k + 1 < W.length
        case neg =>
          have e2 : ((W.length : Nat) : Int) ≤ ((k + 1 : Nat) : Int) := by omega
          have HX : Hid (sayT (l.map Prod.snd) W s.size = .error (s.size, 3)) := Lib.hid (arg_none (x := ⟨tx, false, px⟩) HWC.out HPL.out HF.out (arg_end hA.out (List.getElem?_eq_none (by omega))) hk2)
          clear hk2 hw
          go_wp2_with fail
          go_ret3
          exact ⟨Stp.later (HB3.out.up hBr.out) hB, by rw [HX.out]; exact ⟨by decide, _, rfl⟩⟩
        case pos =>
          have e2 : ¬ ((W.length : Nat) : Int) ≤ ((k + 1 : Nat) : Int) := by omega
          have e3 : ((k + 1 : Nat) : Int) < (W.length : Int) := by omega
          have e4 : (0 : Int) ≤ ((k + 1 : Nat) : Int) := by omega
          obtain ⟨gw2, eg2, hgw2, d1⟩ := ow_at OW3.out (k + 1) hw
          cases eg2
          have d := fun w' (h : Below wr.heap.size wr w') => d1 w' (hBr.out.up h)
          have hx : W[k + 1]? = some W[k + 1] := List.getElem?_eq_getElem hw
          have hxp := HW2.out _ (List.getElem_mem hw)
          clear d1 hgw2
          generalize W[k + 1] = X at *
          obtain ⟨xt, xq, xp⟩ := X
          simp only at d hxp
          have hc := HFC.out (F.getD k 0) (by rw [List.getD_eq_getElem?_getD, List.getElem?_eq_getElem hk2]; exact List.getElem_mem hk2)
          have ek := HFK.out k hlt
          have F1 : ∀ w', Calls Tryz.prog 91 #[bval FS[k], .agg #[.string (bt xt), .bool xq, .int .i64 (xp : Nat)]] w' fun e w'' => e = .returned (.tuple #[.int .i64 (wrongT (F.getD k 0) ⟨xt, xq, xp⟩).1, .int .i64 (wrongT (F.getD k 0) ⟨xt, xq, xp⟩).2]) ∧ Below w'.heap.size w' w'' := fun w' => by
            rw [ek]; exact gWrong _ ⟨xt, xq, xp⟩ w' hxp.2 hc
          have hbd := wrong_bd (c := F.getD k 0) (x := ⟨xt, xq, xp⟩)
          obtain ⟨V, hV⟩ : ∃ V, (wrongT (F.getD k 0) ⟨xt, xq, xp⟩).1 = V := ⟨_, rfl⟩
          obtain ⟨E, hE⟩ : ∃ E, (wrongT (F.getD k 0) ⟨xt, xq, xp⟩).2 = E := ⟨_, rfl⟩
          rw [hV] at hbd
          simp only [hV, hE] at F1
          have F1 := Lib.hid F1
          have HV := Lib.hid hV
          have HE := Lib.hid hE
          have HXX := Lib.hid hx
          have HBD := Lib.hid hbd
          clear ek hc hx hxp hV hE hbd hw
          go_upto_region 14 with fail
          refine wp_region_later wr.heap.size (by kernel_rfl) (by kernel_rfl) ?_
          have hu : ∀ u : Later wr.heap.size wr, Below wr.heap.size wr u.world := Later.below
          repeat (go_big_quiet_step ((go_at_call 91; exact later_below (Nat.le_refl _) (F1.out _))))
          refine wpQuiet_nil ?_
          intro w5 b5
          have d5 := fun w' (h : Below w5.heap.size w5 w') => d w' (b5.up h)
          have HK5 := Lib.hid (hKb.out.later b5)
          have HB5 := Lib.hid (hBr.out.up b5)
          have hr5 := Below.refl w5.heap.size w5
          clear hu d hr b5 F1 hKb hBr
          by_cases hE0 : E = 0
          case neg =>
            have heb := ne_b hE0
            have HX : Hid (sayT (l.map Prod.snd) W s.size = .error (xp, E)) := Lib.hid (arg_none (x := ⟨tx, false, px⟩) HWC.out HPL.out HF.out (by
              have := arg_bad hA.out HXX.out (by rw [HE.out]; exact hE0)
              rw [HE.out] at this
              exact this) hk2)
            have HN := Lib.hid hE0
            clear hE0 hk2
            go_upto_region 16 with fail
            refine wp_region_later w5.heap.size (by kernel_rfl) (by kernel_rfl) ?_
            have hu : ∀ u : Later w5.heap.size w5, Below w5.heap.size w5 u.world := Later.below
            repeat (go_big_quiet_step ((fail)))
            refine wpQuiet_nil ?_
            intro w6 b6
            have t6 := Stp.later (HB3.out.up (HB5.out.up b6)) hB
            clear hu d5 hr5
            go_wp2_with fail
            go_ret3
            exact ⟨t6, by rw [HX.out]; exact ⟨HN.out, _, rfl⟩⟩
          case pos =>
            subst hE0
            have HA2 : Hid (argT F W s.size (k + 1) = .ok (if k = 0 then V else n0, if k = 0 then n1 else V, xt)) := Lib.hid (by
              rw [arg_ok hA.out HXX.out HE.out, HV.out]
              split <;> rfl)
            have hk01 : k = 0 ∨ k = 1 := by omega
            have hkl : (k : Int) < 2 := by omega
            have dn : ∀ w', Below w5.heap.size w5 w' → w'.cell? ⟨w3.heap.size, k, none⟩ = some (.int .i64 (if k = 0 then n0 else n1)) ∧ ∀ j, w'.frozen? ⟨w3.heap.size, j, none⟩ = false := fun w' h => ⟨by
              rw [(HK5.out.later h).cell]
              rcases hk01 with rfl | rfl <;> rfl, fun j => (HK5.out.later h).frozen j⟩
            have HK6 : Hid (Blk (w5.setCell ⟨w3.heap.size, k, none⟩ (.int .i64 V)) w3.heap.size 2 #[.int .i64 (if k = 0 then V else n0), .int .i64 (if k = 0 then n1 else V)]) := Lib.hid (by
              have := HK5.out.set_ k (.int .i64 V)
              rcases hk01 with rfl | rfl <;> simpa using this)
            have HB6 : Hid (Below w3.heap.size w3 (w5.setCell ⟨w3.heap.size, k, none⟩ (.int .i64 V))) := Lib.hid (HB5.out.setCell (p := ⟨w3.heap.size, k, none⟩) (Nat.le_refl _) _)
            have HM0 : Hid (0 ≤ (if k = 0 then V else n0) ∧ (if k = 0 then V else n0) ≤ 1000000000000) := Lib.hid (by split; exact HBD.out; exact HN0.out)
            have HM1 : Hid (0 ≤ (if k = 0 then n1 else V) ∧ (if k = 0 then n1 else V) ≤ 1000000000000) := Lib.hid (by split; exact HN1.out; exact HBD.out)
            generalize (if k = 0 then n0 else n1) = o at *
            generalize (if k = 0 then V else n0) = m0 at *
            generalize (if k = 0 then n1 else V) = m1 at *
            clear hk01 hk2
            go_wp2_with fail
            go_roundw
            case rel => exact ⟨k + 1, m0, m1, xt, by go_num, by omega, rfl, HA2, HM0.out, HM1.out, HK6, HB6⟩
            case measure => simp [intOf]; omega
  case rest =>
    obtain ⟨n0, n1, b, rfl, hA, hn0, hn1, hKb, hBr⟩ := hcut
    generalize wc = w5 at *
    obtain ⟨bb, hbb⟩ : ∃ bb, bt b = bb := ⟨_, rfl⟩
    rw [hbb]
    have HBB := Lib.hid hbb
    clear K4 HB4 hbb
    have s2 : IntKind.i64.wrap ((FS.size : Int) + 1) = ((FS.size + 1 : Nat) : Int) := by rw [IntWalk.i64_in _ (by omega)]; omega
    have hr := Below.refl w5.heap.size w5
    have HSY := Lib.hid (say_ref (x := ⟨tx, false, px⟩) (rs := l.map Prod.snd) (len := s.size) HWC.out HPL.out HF.out)
    by_cases hw : FS.size + 1 < W.length
    case pos =>
      have e3 : ((FS.size + 1 : Nat) : Int) < (W.length : Int) := by omega
      have e4 : (0 : Int) ≤ ((FS.size + 1 : Nat) : Int) := by omega
      obtain ⟨gw2, eg2, hgw2, d1⟩ := ow_at OW3.out (FS.size + 1) hw
      cases eg2
      have d := fun w' (h : Below w5.heap.size w5 w') => d1 w' (hBr.out.up h)
      have hx : W[FS.size + 1]? = some W[FS.size + 1] := List.getElem?_eq_getElem hw
      clear d1 hgw2
      generalize W[FS.size + 1] = X at *
      have HX : Hid (sayT (l.map Prod.snd) W s.size = .error (X.place, 2)) := Lib.hid (by
        rw [HSY.out, hA.out]
        show (fEnd W (F.length + 1)).bind _ = _
        unfold fEnd
        rw [← HFZ.out, hx]
        rfl)
      clear hx hw dW
      go_upto_region 19 with fail
      refine wp_region_later w5.heap.size (by kernel_rfl) (by kernel_rfl) ?_
      have hu : ∀ u : Later w5.heap.size w5, Below w5.heap.size w5 u.world := Later.below
      repeat (go_big_quiet_step ((fail)))
      refine wpQuiet_nil ?_
      intro w6 b6
      have t6 := Stp.later (HB3.out.up (hBr.out.up b6)) hB
      clear hu d hr
      go_wp2_with fail
      go_ret3
      exact ⟨t6, by rw [HX.out]; exact ⟨by decide, _, rfl⟩⟩
    case neg =>
      have e3 : ¬ ((FS.size + 1 : Nat) : Int) < (W.length : Int) := by omega
      have HX : Hid (sayT (l.map Prod.snd) W s.size = .ok (doT tx (n0, n1, b) (l.map Prod.snd))) := Lib.hid (by
        rw [HSY.out, hA.out]
        show (fEnd W (F.length + 1)).bind _ = _
        unfold fEnd
        rw [← HFZ.out, List.getElem?_eq_none (by omega)]
        rfl)
      have HLN := Lib.hid (say_len (x := ⟨tx, false, px⟩) (p := (n0, n1, b)) HPL.out HM.out (by rw [List.length_map]; exact hl))
      have dW5 := fun w' (h : Below w5.heap.size w5 w') => dW w' (hBr.out.up h)
      have dn5 := hKb.out.at2
      obtain ⟨cur, hcur⟩ := orow_type (g := gw) OW3.out rfl
      have KW5 : Blk w5 gw 123 cur := Blk.later hcur hBr.out
      have HC := Lib.hid ((KW5.cell 0).symm.trans (dW5 w5 (Below.refl _ _)).1)
      have hnr : w3.heap.size < w5.heap.size := hKb.out.lt
      have hwr : gw < w5.heap.size := KW5.lt
      have t5 := Stp.later (HB3.out.up hBr.out) hB
      have HS5 := Lib.hid (HS.out.later (HB3.out.up hBr.out))
      have hB5 : B ≤ w5.heap.size := Nat.le_trans hB (HB3.out.up hBr.out).size
      have K5 := hKb.out
      obtain ⟨RS, hRS⟩ : ∃ RS, doT tx (n0, n1, b) (l.map Prod.snd) = RS := ⟨_, rfl⟩
      simp only at HLN
      rw [hRS] at HLN HX
      have HRS := Lib.hid hRS
      have HSM := Lib.hid hM
      clear hRS hM
      generalize w3.heap.size = nb at *
      clear hcur dW hw HS HSY hA hKb hBr HB3 HPL HFK HFC
      have hm := HM.out
      simp only [kWords, List.mem_cons, List.not_mem_nil, or_false] at hm
      rcases hm with rfl | rfl | rfl | rfl | rfl | rfl | rfl | rfl | rfl
      · have hm1 : l.length ≤ 1000000 := by omega
        have hlr : l.length ≤ K := by have := HSM.out.1; rw [List.length_map] at this; exact this
        have R5 := HS5.out.rnds
        have b6 : Below w5.heap.size w5 (w5.alloc (.cells #[.int .i64 n0, .slice none 0 0, .slice none 0 0, .slice none 0 0, .int .i64 0, .bool false] 59)) := (Below.refl _ _).alloc (Nat.le_refl _) _
        have R6 := R5.later b6
        clear R5
        have c0 : (kTick == [116, 105, 99, 107]) = true := by decide
        have c1 : (kTick == [111, 112, 101, 110]) = false := by decide
        have c2 : (kTick == [111, 102, 102, 101, 114]) = false := by decide
        have c3 : (kTick == [99, 108, 111, 115, 101]) = false := by decide
        have c4 : (kTick == [114, 101, 97, 100]) = false := by decide
        have c5 : (kTick == [119, 114, 105, 116, 101]) = false := by decide
        have c6 : (kTick == [98, 111, 116, 104]) = false := by decide
        have c7 : (kTick == [100, 114, 97, 105, 110]) = false := by decide
        have c8 : (kTick == [97, 98, 111, 114, 116]) = false := by decide
        go_wp2_with (at_builtin; refine wpList_append_elem info_round rfl (by decide) (by decide) Tryz.underlying47 _ rfl _ _ rfl B _ _ _ rfl R6.row w5.heap.size rfl [.int .i64 n0, .slice none 0 0, .slice none 0 0, .slice none 0 0, .int .i64 0, .bool false] rfl ?ta1 ?ta2 hm1 ?ta3 ?ta4)
        case ta2 => exact ⟨rfl, rfl, rfl, rfl⟩
        case ta3 => omega
        case ta4 =>
          intro ao7 cap7 w7 o7 g7
          have L7 := (R6.tick g7 o7 (Nat.le_trans hB5 b6.size)).ticks n0
          have t7 := (t5.trans (Stp.later b6 hB5)).trans (Stp.row R6.row g7 (by decide) (Nat.le_refl _) (Nat.le_trans hB5 b6.size))
          obtain ⟨g, eg, -⟩ := L7.at_
          subst eg
          have HL7 := Lib.hid L7
          have HR : Hid (RS = l.map Prod.snd ++ [{ rd0 with ticks := n0 }]) := Lib.hid (by rw [← HRS.out]; rfl)
          clear o7 g7 L7 R6 dW5 dn5 b6 K5 KW5
          go_wp2_with fail
          go_ret3
          exact ⟨t7, by rw [HX.out]; exact ⟨by rw [HR.out]; exact sml_tick HSM.out, HLN.out, some ⟨g, 0, none⟩, cap7, l ++ [(hd0, { rd0 with ticks := n0 })], by rw [HR.out, List.map_append]; rfl, by rw [List.length_append]; rfl, .inr ⟨l, hd0, _, g, _, rfl, rfl, HL7.out⟩⟩⟩
      · rcases HS5.out with ⟨e, _⟩ | ⟨l0, h, r, g, B1, rfl, rfl, hL⟩
        · exact absurd (by rw [e]; rfl) (HNE.out (by decide))
        have hlen : (l0 ++ [(h, r)]).length = l0.length + 1 := by simp
        have hmap : (l0 ++ [(h, r)]).map Prod.snd = l0.map Prod.snd ++ [r] := by simp
        rw [hlen] at hl ⊢
        rw [hmap] at HRS HSM HX
        have hrl := HSM.out.2 r (by simp)
        obtain ⟨hr1, hr2, hr3⟩ := hrl
        have s3 : IntKind.i64.wrap (((l0.length + 1 : Nat) : Int) - 1) = (l0.length : Nat) := by rw [IntWalk.i64_in _ (by omega)]; omega
        have e5 : (0 : Int) ≤ ((l0.length : Nat) : Int) := by omega
        have hwn : 0 < W.length := by omega
        have e6 : ((l0.length : Nat) : Int) < ((l0.length + 1 : Nat) : Int) := by omega
        obtain ⟨g', eg, hBg, hgs, dL, fL⟩ := hL.at_
        cases eg
        have dl : ∀ w', Below w5.heap.size w5 w' → w'.cell? ⟨g, l0.length * 6, none⟩ = some (.int .i64 r.ticks) ∧ w'.cell? ⟨g, l0.length * 6 + 1, none⟩ = some (.slice h.oa r.opens.length h.oc) ∧ w'.cell? ⟨g, l0.length * 6 + 2, none⟩ = some (.slice h.fa r.offers.length h.fc) ∧ w'.cell? ⟨g, l0.length * 6 + 3, none⟩ = some (.slice h.pa r.reports.length h.pc) ∧ w'.cell? ⟨g, l0.length * 6 + 4, none⟩ = some (.int .i64 r.drain) ∧ w'.cell? ⟨g, l0.length * 6 + 5, none⟩ = some (.bool r.abort) := fun w' hw => ⟨dL w' hw 0 (by decide), dL w' hw 1 (by decide), dL w' hw 2 (by decide), dL w' hw 3 (by decide), dL w' hw 4 (by decide), dL w' hw 5 (by decide)⟩
        clear dL fL hlen hmap HS5
        obtain ⟨w6, hw6⟩ : ∃ w6, w5.alloc (.cells (rC h r).toArray 59) = w6 := ⟨_, rfl⟩
        have k6 : Blk w6 w5.heap.size 59 (rC h r).toArray := by rw [← hw6]; exact Blk.new _ _ _
        have b6 : Below w5.heap.size w5 w6 := by rw [← hw6]; exact (Below.refl _ _).alloc (Nat.le_refl _) _
        simp only [rC] at hw6
        go_upto_region 23 with fail
        try rw [hw6]
        have t6 := t5.trans (Stp.later b6 hB5)
        have L6 := hL.later b6
        have dW6 := fun w' (hw : Below w6.heap.size w6 w') => dW5 w' (b6.up hw)
        clear dn5
        have dn := (K5.later b6).at2
        have kn6 := K5.later b6
        have kw6 := KW5.later b6
        have hne1 : nb ≠ w5.heap.size := by omega
        have hne2 : gw ≠ w5.heap.size := by omega
        have hg1 : g ≠ w5.heap.size := by omega
        have hg2 : B1 ≤ w5.heap.size := hL.hi
        have hr := Below.refl w6.heap.size w6
        generalize w5.heap.size = rb at *
        clear hw6 t5 hL dW5 dl K5 KW5 b6 hgs hnr hwr
        have k6' := k6
        unfold rC at k6'
        have dk := k6'.at6
        clear k6'
        have c0 : (kOpen == [116, 105, 99, 107]) = false := by decide
        have c1 : (kOpen == [111, 112, 101, 110]) = true := by decide
        have c2 : (kOpen == [111, 102, 102, 101, 114]) = false := by decide
        have c3 : (kOpen == [99, 108, 111, 115, 101]) = false := by decide
        have c4 : (kOpen == [114, 101, 97, 100]) = false := by decide
        have c5 : (kOpen == [119, 114, 105, 116, 101]) = false := by decide
        have c6 : (kOpen == [98, 111, 116, 104]) = false := by decide
        have c7 : (kOpen == [100, 114, 97, 105, 110]) = false := by decide
        have c8 : (kOpen == [97, 98, 111, 114, 116]) = false := by decide
        have D : Below w6.heap.size w6 w6.drew := (Below.refl _ _).drew
        have L6d := L6.later D
        have hos := L6d.cur.os
        have hr5 : Below w6.heap.size w6 (w6.alloc (.cells #[.int .i64 n0] 3)) := (Below.refl _ _).alloc (Nat.le_refl _) _
        have hhi := L6.hi
        go_upto_region 25 with fail
        have MKS : Hid (∀ w', Below w6.heap.size w6 w' → w'.cell? ⟨rb, 1, none⟩ = some (.slice h.oa r.opens.length h.oc) ∧ w'.cell? ⟨nb, 0, none⟩ = some (.int .i64 n0) ∧ w'.cell? ⟨nb, 1, none⟩ = some (.int .i64 n1) ∧ w'.cell? ⟨gw, 0, none⟩ = some (.string (bt kOpen))) := Lib.hid fun w' hw => ⟨((k6.later hw).cell 1).trans rfl, (dn w' hw).1, (dn w' hw).2.1, (dW6 w' hw).1⟩
        have HD := Lib.hid D
        clear dn dW6 dk
        refine wp_region_ordL (S := fun w' => w'.cell? ⟨rb, 1, none⟩ = some (.slice h.oa r.opens.length h.oc) ∧ w'.cell? ⟨nb, 0, none⟩ = some (.int .i64 n0) ∧ w'.cell? ⟨nb, 1, none⟩ = some (.int .i64 n1) ∧ w'.cell? ⟨gw, 0, none⟩ = some (.string (bt kOpen))) [0, 1, 2, 3, 4, 5, 6, 7, 8] 8 (by kernel_rfl) (by kernel_rfl) (by kernel_rfl) (by kernel_rfl) (by kernel_rfl) (by kernel_rfl) (MKS.out _ D) ?_
        simp only [pickL, List.filterMap_cons, List.filterMap_nil, List.getElem?_cons_zero, List.getElem?_cons_succ]
        repeat (refine ordL_take (v := ?_) (by rfl) (by rfl) ?_ ?_; rotate_left; (focus (intro w hSw; (try dsimp only at hSw); go_simp; (try with_reducible rfl))); simp only [Act.put, List.setIfInBounds_toArray, List.set_cons_zero, List.set_cons_succ])
        refine ordL_lone (by rfl) (by rfl) (fun KK hK => ?_)
        try go_simp
        refine hK.out _ _ (.inr (MKS.out _ (Below.drew hr5))) ?_
        clear hK KK
        try simp only [Act.put, List.setIfInBounds_toArray, List.set_cons_zero, List.set_cons_succ]
        refine ordL_lone (by rfl) (by rfl) (fun KK hK => ?_)
        refine wp_append1 info_int rfl (by decide) (by decide) Tryz.underlying55 rfl (.tmp 133) (.tmp 137) rfl (.slice h.oa r.opens.length h.oc) _ _ rfl (World.ownsRow.alloc hos _) w6.heap.size rfl [.int .i64 n0] rfl ?a1 ?a2 (by omega) (Nat.le_trans hhi hr5.size) ?a3
        case a1 => intro j u hj; exact ((Blk.new w6.drew 3 #[.int .i64 n0]).cell j).trans (by simpa using hj)
        case a2 => intro u hu; simp at hu; subst hu; rfl
        case a3 =>
        intro ao7 cap7 w7 o7 g7
        have k7 := copy_grown k6 hos (by decide) g7
        have k7' := k7
        unfold rC at k7'
        have d7 := k7'.at6
        clear k7'
        have kn7 := blk_grown kn6 hos (by decide) g7
        have kw7 := blk_grown kw6 hos (by decide) g7
        have hr7 := Below.refl w7.heap.size w7
        refine hK.out _ _ (.inr ⟨(k7.cell 1).trans rfl, kn7.cell 0, kn7.cell 1, (kw7.cell 0).trans HC.out⟩) ?_
        clear hK KK
        try simp only [Act.put, List.setIfInBounds_toArray, List.set_cons_zero, List.set_cons_succ]
        repeat (refine ordL_take (v := ?_) (by rfl) (by rfl) ?_ ?_; rotate_left; (focus (intro w hSw; (try dsimp only at hSw); go_simp; (try with_reducible rfl))); simp only [Act.put, List.setIfInBounds_toArray, List.set_cons_zero, List.set_cons_succ])
        refine ordL_lone (by rfl) (by rfl) (fun KK hK => ?_)
        try go_simp
        refine hK.out _ _ (.inl rfl) ?_
        clear hK KK
        try simp only [Act.put, List.setIfInBounds_toArray, List.set_cons_zero, List.set_cons_succ]
        refine ordL_done ?_
        have L7 := (L6d.later ((Below.refl w6.drew.heap.size w6.drew).alloc (Nat.le_refl _) (.cells #[.int .i64 n0] 3))).openG (n := n0) g7 o7
        have t7 := ((t6.trans (Stp.later D (Nat.le_trans L6.lo hhi))).trans (Stp.later ((Below.refl w6.drew.heap.size w6.drew).alloc (Nat.le_refl _) (.cells #[.int .i64 n0] 3)) (Nat.le_trans L6.lo hhi))).trans (Stp.row (World.ownsRow.alloc hos (.cells #[.int .i64 n0] 3)) g7 (by decide) L6.lo (Nat.le_trans L6.lo (Nat.le_trans hhi hr5.size)))
        obtain ⟨L8, k8, t8'⟩ := line_put L7 k7 hg1 hg2 (Nat.le_trans L6.lo hg2) 1 (.slice ao7 (r.opens.length + 1) cap7) (by simp [rC])
        have t8 := t7.trans t8'
        clear hr hr5 hos o7 g7 d7 hr7 L7 t7 t8' k6 L6 L6d t6 D k7 kn6 kw6 kn7 kw7 MKS
        obtain ⟨w8, hw8⟩ : ∃ w8, w7.setCell ⟨rb, 1, none⟩ (.slice ao7 (r.opens.length + 1) cap7) = w8 := ⟨_, rfl⟩
        try rw [hw8]
        rw [hw8] at L8 k8 t8
        clear hw8
        have HR : Hid (RS = l0.map Prod.snd ++ [{ r with opens := r.opens ++ [n0] }]) := Lib.hid (by rw [← HRS.out]; exact upd_last _ _ _)
        have HSL : Hid (Sml (K + 1) (l0.map Prod.snd ++ [{ r with opens := r.opens ++ [n0] }])) := Lib.hid (sml_last HSM.out (by simp) (by simp) (by simp))
        obtain ⟨g'', eg2, -, -, dL, fL⟩ := L8.at_
        cases eg2
        have dl : ∀ w', Below w8.heap.size w8 w' → w'.cell? ⟨g, l0.length * 6, none⟩ = some (.int .i64 r.ticks) ∧ w'.cell? ⟨g, l0.length * 6 + 1, none⟩ = some (.slice h.oa r.opens.length h.oc) ∧ w'.cell? ⟨g, l0.length * 6 + 2, none⟩ = some (.slice h.fa r.offers.length h.fc) ∧ w'.cell? ⟨g, l0.length * 6 + 3, none⟩ = some (.slice h.pa r.reports.length h.pc) ∧ w'.cell? ⟨g, l0.length * 6 + 4, none⟩ = some (.int .i64 r.drain) ∧ w'.cell? ⟨g, l0.length * 6 + 5, none⟩ = some (.bool r.abort) ∧ ∀ j, w'.frozen? ⟨g, j, none⟩ = false := fun w' hw => ⟨dL w' hw 0 (by decide), dL w' hw 1 (by decide), dL w' hw 2 (by decide), dL w' hw 3 (by decide), dL w' hw 4 (by decide), dL w' hw 5 (by decide), fL w' hw⟩
        have HE := Lib.hid (line_end L8)
        simp only [List.length_append, List.length_cons, List.length_nil, Nat.zero_add] at HE
        simp only [rC, List.length_append, List.length_cons, List.length_nil, Nat.zero_add] at k8
        have dk := k8.at6
        have hr := Below.refl w8.heap.size w8
        clear dL fL k8 L8
        go_wp2_with fail
        have HE := HE.out _ rfl
        generalize World.setCell _ _ _ = w9 at HE ⊢
        obtain ⟨L9, t9⟩ := HE
        go_ret3
        exact ⟨t8.trans t9, by rw [HX.out]; exact ⟨by rw [HR.out]; exact HSL.out, HLN.out, some ⟨g, 0, none⟩, cap, l0 ++ [({ h with oa := ao7, oc := cap7 }, { r with opens := r.opens ++ [n0] })], by rw [HR.out, List.map_append]; rfl, by rw [List.length_append]; rfl, .inr ⟨l0, { h with oa := ao7, oc := cap7 }, _, g, B1, rfl, rfl, L9⟩⟩⟩

      · rcases HS5.out with ⟨e, _⟩ | ⟨l0, h, r, g, B1, rfl, rfl, hL⟩
        · exact absurd (by rw [e]; rfl) (HNE.out (by decide))
        have hlen : (l0 ++ [(h, r)]).length = l0.length + 1 := by simp
        have hmap : (l0 ++ [(h, r)]).map Prod.snd = l0.map Prod.snd ++ [r] := by simp
        rw [hlen] at hl ⊢
        rw [hmap] at HRS HSM HX
        have hrl := HSM.out.2 r (by simp)
        obtain ⟨hr1, hr2, hr3⟩ := hrl
        have s3 : IntKind.i64.wrap (((l0.length + 1 : Nat) : Int) - 1) = (l0.length : Nat) := by rw [IntWalk.i64_in _ (by omega)]; omega
        have e5 : (0 : Int) ≤ ((l0.length : Nat) : Int) := by omega
        have hwn : 0 < W.length := by omega
        have e6 : ((l0.length : Nat) : Int) < ((l0.length + 1 : Nat) : Int) := by omega
        obtain ⟨g', eg, hBg, hgs, dL, fL⟩ := hL.at_
        cases eg
        have dl : ∀ w', Below w5.heap.size w5 w' → w'.cell? ⟨g, l0.length * 6, none⟩ = some (.int .i64 r.ticks) ∧ w'.cell? ⟨g, l0.length * 6 + 1, none⟩ = some (.slice h.oa r.opens.length h.oc) ∧ w'.cell? ⟨g, l0.length * 6 + 2, none⟩ = some (.slice h.fa r.offers.length h.fc) ∧ w'.cell? ⟨g, l0.length * 6 + 3, none⟩ = some (.slice h.pa r.reports.length h.pc) ∧ w'.cell? ⟨g, l0.length * 6 + 4, none⟩ = some (.int .i64 r.drain) ∧ w'.cell? ⟨g, l0.length * 6 + 5, none⟩ = some (.bool r.abort) := fun w' hw => ⟨dL w' hw 0 (by decide), dL w' hw 1 (by decide), dL w' hw 2 (by decide), dL w' hw 3 (by decide), dL w' hw 4 (by decide), dL w' hw 5 (by decide)⟩
        clear dL fL hlen hmap HS5
        obtain ⟨w6, hw6⟩ : ∃ w6, w5.alloc (.cells (rC h r).toArray 59) = w6 := ⟨_, rfl⟩
        have k6 : Blk w6 w5.heap.size 59 (rC h r).toArray := by rw [← hw6]; exact Blk.new _ _ _
        have b6 : Below w5.heap.size w5 w6 := by rw [← hw6]; exact (Below.refl _ _).alloc (Nat.le_refl _) _
        simp only [rC] at hw6
        go_upto_region 23 with fail
        try rw [hw6]
        have t6 := t5.trans (Stp.later b6 hB5)
        have L6 := hL.later b6
        have dW6 := fun w' (hw : Below w6.heap.size w6 w') => dW5 w' (b6.up hw)
        clear dn5
        have dn := (K5.later b6).at2
        have kn6 := K5.later b6
        have kw6 := KW5.later b6
        have hne1 : nb ≠ w5.heap.size := by omega
        have hne2 : gw ≠ w5.heap.size := by omega
        have hg1 : g ≠ w5.heap.size := by omega
        have hg2 : B1 ≤ w5.heap.size := hL.hi
        have hr := Below.refl w6.heap.size w6
        generalize w5.heap.size = rb at *
        clear hw6 t5 hL dW5 dl K5 KW5 b6 hgs hnr hwr
        have k6' := k6
        unfold rC at k6'
        have dk := k6'.at6
        clear k6'
        have c0 : (kOffer == [116, 105, 99, 107]) = false := by decide
        have c1 : (kOffer == [111, 112, 101, 110]) = false := by decide
        have c2 : (kOffer == [111, 102, 102, 101, 114]) = true := by decide
        have c3 : (kOffer == [99, 108, 111, 115, 101]) = false := by decide
        have c4 : (kOffer == [114, 101, 97, 100]) = false := by decide
        have c5 : (kOffer == [119, 114, 105, 116, 101]) = false := by decide
        have c6 : (kOffer == [98, 111, 116, 104]) = false := by decide
        have c7 : (kOffer == [100, 114, 97, 105, 110]) = false := by decide
        have c8 : (kOffer == [97, 98, 111, 114, 116]) = false := by decide
        have D : Below w6.heap.size w6 w6.drew := (Below.refl _ _).drew
        have L6d := L6.later D
        have hos := L6d.cur.fs
        have hr5 : Below w6.heap.size w6 (w6.alloc (.cells #[.int .i64 n0, .string bb, .bool false] 93)) := (Below.refl _ _).alloc (Nat.le_refl _) _
        have hhi := L6.hi
        go_upto_region 28 with fail
        have MKS : Hid (∀ w', Below w6.heap.size w6 w' → w'.cell? ⟨rb, 2, none⟩ = some (.slice h.fa r.offers.length h.fc) ∧ w'.cell? ⟨nb, 0, none⟩ = some (.int .i64 n0) ∧ w'.cell? ⟨nb, 1, none⟩ = some (.int .i64 n1) ∧ w'.cell? ⟨gw, 0, none⟩ = some (.string (bt kOffer))) := Lib.hid fun w' hw => ⟨((k6.later hw).cell 2).trans rfl, (dn w' hw).1, (dn w' hw).2.1, (dW6 w' hw).1⟩
        have HD := Lib.hid D
        clear dn dW6 dk
        refine wp_region_ordL (S := fun w' => w'.cell? ⟨rb, 2, none⟩ = some (.slice h.fa r.offers.length h.fc) ∧ w'.cell? ⟨nb, 0, none⟩ = some (.int .i64 n0) ∧ w'.cell? ⟨nb, 1, none⟩ = some (.int .i64 n1) ∧ w'.cell? ⟨gw, 0, none⟩ = some (.string (bt kOffer))) [0, 1, 2, 3, 4, 5, 6, 7, 8, 9, 10, 11, 12, 13, 14, 15] 15 (by kernel_rfl) (by kernel_rfl) (by kernel_rfl) (by kernel_rfl) (by kernel_rfl) (by kernel_rfl) (MKS.out _ D) ?_
        simp only [pickL, List.filterMap_cons, List.filterMap_nil, List.getElem?_cons_zero, List.getElem?_cons_succ]
        repeat (refine ordL_take (v := ?_) (by rfl) (by rfl) ?_ ?_; rotate_left; (focus (intro w hSw; (try dsimp only at hSw); go_simp; (try with_reducible rfl))); simp only [Act.put, List.setIfInBounds_toArray, List.set_cons_zero, List.set_cons_succ])
        refine ordL_lone (by rfl) (by rfl) (fun KK hK => ?_)
        try go_simp
        refine hK.out _ _ (.inr (MKS.out _ (Below.drew hr5))) ?_
        clear hK KK
        try simp only [Act.put, List.setIfInBounds_toArray, List.set_cons_zero, List.set_cons_succ]
        refine ordL_lone (by rfl) (by rfl) (fun KK hK => ?_)
        refine wp_append1 info_offer rfl (by decide) (by decide) Tryz.underlying56 rfl (.tmp 144) (.tmp 155) rfl (.slice h.fa r.offers.length h.fc) _ _ rfl (World.ownsRow.alloc hos _) w6.heap.size rfl [.int .i64 n0, .string bb, .bool false] rfl ?a1 ?a2 (by omega) (Nat.le_trans hhi hr5.size) ?a3
        case a1 => intro j u hj; exact ((Blk.new w6.drew 93 #[.int .i64 n0, .string bb, .bool false]).cell j).trans (by simpa using hj)
        case a2 => intro u hu; simp at hu; rcases hu with rfl | rfl | rfl <;> rfl
        case a3 =>
        intro ao7 cap7 w7 o7 g7
        have k7 := copy_grown k6 hos (by decide) g7
        have k7' := k7
        unfold rC at k7'
        have d7 := k7'.at6
        clear k7'
        have kn7 := blk_grown kn6 hos (by decide) g7
        have kw7 := blk_grown kw6 hos (by decide) g7
        have hr7 := Below.refl w7.heap.size w7
        refine hK.out _ _ (.inr ⟨(k7.cell 2).trans rfl, kn7.cell 0, kn7.cell 1, (kw7.cell 0).trans HC.out⟩) ?_
        clear hK KK
        try simp only [Act.put, List.setIfInBounds_toArray, List.set_cons_zero, List.set_cons_succ]
        repeat (refine ordL_take (v := ?_) (by rfl) (by rfl) ?_ ?_; rotate_left; (focus (intro w hSw; (try dsimp only at hSw); go_simp; (try with_reducible rfl))); simp only [Act.put, List.setIfInBounds_toArray, List.set_cons_zero, List.set_cons_succ])
        refine ordL_lone (by rfl) (by rfl) (fun KK hK => ?_)
        try go_simp
        refine hK.out _ _ (.inl rfl) ?_
        clear hK KK
        try simp only [Act.put, List.setIfInBounds_toArray, List.set_cons_zero, List.set_cons_succ]
        refine ordL_done ?_
        have L7 := (L6d.later ((Below.refl w6.drew.heap.size w6.drew).alloc (Nat.le_refl _) (.cells #[.int .i64 n0, .string bb, .bool false] 93))).offerG (o := ⟨n0, bb, false⟩) g7 o7
        have t7 := ((t6.trans (Stp.later D (Nat.le_trans L6.lo hhi))).trans (Stp.later ((Below.refl w6.drew.heap.size w6.drew).alloc (Nat.le_refl _) (.cells #[.int .i64 n0, .string bb, .bool false] 93)) (Nat.le_trans L6.lo hhi))).trans (Stp.row (World.ownsRow.alloc hos (.cells #[.int .i64 n0, .string bb, .bool false] 93)) g7 (by decide) L6.lo (Nat.le_trans L6.lo (Nat.le_trans hhi hr5.size)))
        obtain ⟨L8, k8, t8'⟩ := line_put L7 k7 hg1 hg2 (Nat.le_trans L6.lo hg2) 2 (.slice ao7 (r.offers.length + 1) cap7) (by simp [rC])
        have t8 := t7.trans t8'
        clear hr hr5 hos o7 g7 d7 hr7 L7 t7 t8' k6 L6 L6d t6 D k7 kn6 kw6 kn7 kw7 MKS
        obtain ⟨w8, hw8⟩ : ∃ w8, w7.setCell ⟨rb, 2, none⟩ (.slice ao7 (r.offers.length + 1) cap7) = w8 := ⟨_, rfl⟩
        try rw [hw8]
        rw [hw8] at L8 k8 t8
        clear hw8
        have HR : Hid (RS = l0.map Prod.snd ++ [{ r with offers := r.offers ++ [⟨n0, bb, false⟩] }]) := Lib.hid (by rw [← HRS.out, ← HBB.out]; exact upd_last _ _ _)
        have HSL : Hid (Sml (K + 1) (l0.map Prod.snd ++ [{ r with offers := r.offers ++ [⟨n0, bb, false⟩] }])) := Lib.hid (sml_last HSM.out (by simp) (by simp) (by simp))
        obtain ⟨g'', eg2, -, -, dL, fL⟩ := L8.at_
        cases eg2
        have dl : ∀ w', Below w8.heap.size w8 w' → w'.cell? ⟨g, l0.length * 6, none⟩ = some (.int .i64 r.ticks) ∧ w'.cell? ⟨g, l0.length * 6 + 1, none⟩ = some (.slice h.oa r.opens.length h.oc) ∧ w'.cell? ⟨g, l0.length * 6 + 2, none⟩ = some (.slice h.fa r.offers.length h.fc) ∧ w'.cell? ⟨g, l0.length * 6 + 3, none⟩ = some (.slice h.pa r.reports.length h.pc) ∧ w'.cell? ⟨g, l0.length * 6 + 4, none⟩ = some (.int .i64 r.drain) ∧ w'.cell? ⟨g, l0.length * 6 + 5, none⟩ = some (.bool r.abort) ∧ ∀ j, w'.frozen? ⟨g, j, none⟩ = false := fun w' hw => ⟨dL w' hw 0 (by decide), dL w' hw 1 (by decide), dL w' hw 2 (by decide), dL w' hw 3 (by decide), dL w' hw 4 (by decide), dL w' hw 5 (by decide), fL w' hw⟩
        have HE := Lib.hid (line_end L8)
        simp only [List.length_append, List.length_cons, List.length_nil, Nat.zero_add] at HE
        simp only [rC, List.length_append, List.length_cons, List.length_nil, Nat.zero_add] at k8
        have dk := k8.at6
        have hr := Below.refl w8.heap.size w8
        clear dL fL k8 L8
        go_wp2_with fail
        have HE := HE.out _ rfl
        generalize World.setCell _ _ _ = w9 at HE ⊢
        obtain ⟨L9, t9⟩ := HE
        go_ret3
        exact ⟨t8.trans t9, by rw [HX.out]; exact ⟨by rw [HR.out]; exact HSL.out, HLN.out, some ⟨g, 0, none⟩, cap, l0 ++ [({ h with fa := ao7, fc := cap7 }, { r with offers := r.offers ++ [⟨n0, bb, false⟩] })], by rw [HR.out, List.map_append]; rfl, by rw [List.length_append]; rfl, .inr ⟨l0, { h with fa := ao7, fc := cap7 }, _, g, B1, rfl, rfl, L9⟩⟩⟩

      · rcases HS5.out with ⟨e, _⟩ | ⟨l0, h, r, g, B1, rfl, rfl, hL⟩
        · exact absurd (by rw [e]; rfl) (HNE.out (by decide))
        have hlen : (l0 ++ [(h, r)]).length = l0.length + 1 := by simp
        have hmap : (l0 ++ [(h, r)]).map Prod.snd = l0.map Prod.snd ++ [r] := by simp
        rw [hlen] at hl ⊢
        rw [hmap] at HRS HSM HX
        have hrl := HSM.out.2 r (by simp)
        obtain ⟨hr1, hr2, hr3⟩ := hrl
        have s3 : IntKind.i64.wrap (((l0.length + 1 : Nat) : Int) - 1) = (l0.length : Nat) := by rw [IntWalk.i64_in _ (by omega)]; omega
        have e5 : (0 : Int) ≤ ((l0.length : Nat) : Int) := by omega
        have hwn : 0 < W.length := by omega
        have e6 : ((l0.length : Nat) : Int) < ((l0.length + 1 : Nat) : Int) := by omega
        obtain ⟨g', eg, hBg, hgs, dL, fL⟩ := hL.at_
        cases eg
        have dl : ∀ w', Below w5.heap.size w5 w' → w'.cell? ⟨g, l0.length * 6, none⟩ = some (.int .i64 r.ticks) ∧ w'.cell? ⟨g, l0.length * 6 + 1, none⟩ = some (.slice h.oa r.opens.length h.oc) ∧ w'.cell? ⟨g, l0.length * 6 + 2, none⟩ = some (.slice h.fa r.offers.length h.fc) ∧ w'.cell? ⟨g, l0.length * 6 + 3, none⟩ = some (.slice h.pa r.reports.length h.pc) ∧ w'.cell? ⟨g, l0.length * 6 + 4, none⟩ = some (.int .i64 r.drain) ∧ w'.cell? ⟨g, l0.length * 6 + 5, none⟩ = some (.bool r.abort) := fun w' hw => ⟨dL w' hw 0 (by decide), dL w' hw 1 (by decide), dL w' hw 2 (by decide), dL w' hw 3 (by decide), dL w' hw 4 (by decide), dL w' hw 5 (by decide)⟩
        clear dL fL hlen hmap HS5
        obtain ⟨w6, hw6⟩ : ∃ w6, w5.alloc (.cells (rC h r).toArray 59) = w6 := ⟨_, rfl⟩
        have k6 : Blk w6 w5.heap.size 59 (rC h r).toArray := by rw [← hw6]; exact Blk.new _ _ _
        have b6 : Below w5.heap.size w5 w6 := by rw [← hw6]; exact (Below.refl _ _).alloc (Nat.le_refl _) _
        simp only [rC] at hw6
        go_upto_region 23 with fail
        try rw [hw6]
        have t6 := t5.trans (Stp.later b6 hB5)
        have L6 := hL.later b6
        have dW6 := fun w' (hw : Below w6.heap.size w6 w') => dW5 w' (b6.up hw)
        clear dn5
        have dn := (K5.later b6).at2
        have kn6 := K5.later b6
        have kw6 := KW5.later b6
        have hne1 : nb ≠ w5.heap.size := by omega
        have hne2 : gw ≠ w5.heap.size := by omega
        have hg1 : g ≠ w5.heap.size := by omega
        have hg2 : B1 ≤ w5.heap.size := hL.hi
        have hr := Below.refl w6.heap.size w6
        generalize w5.heap.size = rb at *
        clear hw6 t5 hL dW5 dl K5 KW5 b6 hgs hnr hwr
        have k6' := k6
        unfold rC at k6'
        have dk := k6'.at6
        clear k6'
        have c0 : (kClose == [116, 105, 99, 107]) = false := by decide
        have c1 : (kClose == [111, 112, 101, 110]) = false := by decide
        have c2 : (kClose == [111, 102, 102, 101, 114]) = false := by decide
        have c3 : (kClose == [99, 108, 111, 115, 101]) = true := by decide
        have c4 : (kClose == [114, 101, 97, 100]) = false := by decide
        have c5 : (kClose == [119, 114, 105, 116, 101]) = false := by decide
        have c6 : (kClose == [98, 111, 116, 104]) = false := by decide
        have c7 : (kClose == [100, 114, 97, 105, 110]) = false := by decide
        have c8 : (kClose == [97, 98, 111, 114, 116]) = false := by decide
        have D : Below w6.heap.size w6 w6.drew := (Below.refl _ _).drew
        have L6d := L6.later D
        have hos := L6d.cur.fs
        have hr5 : Below w6.heap.size w6 (w6.alloc (.cells #[.int .i64 n0, .string bb, .bool true] 93)) := (Below.refl _ _).alloc (Nat.le_refl _) _
        have hhi := L6.hi
        go_upto_region 28 with fail
        have MKS : Hid (∀ w', Below w6.heap.size w6 w' → w'.cell? ⟨rb, 2, none⟩ = some (.slice h.fa r.offers.length h.fc) ∧ w'.cell? ⟨nb, 0, none⟩ = some (.int .i64 n0) ∧ w'.cell? ⟨nb, 1, none⟩ = some (.int .i64 n1) ∧ w'.cell? ⟨gw, 0, none⟩ = some (.string (bt kClose))) := Lib.hid fun w' hw => ⟨((k6.later hw).cell 2).trans rfl, (dn w' hw).1, (dn w' hw).2.1, (dW6 w' hw).1⟩
        have HD := Lib.hid D
        clear dn dW6 dk
        refine wp_region_ordL (S := fun w' => w'.cell? ⟨rb, 2, none⟩ = some (.slice h.fa r.offers.length h.fc) ∧ w'.cell? ⟨nb, 0, none⟩ = some (.int .i64 n0) ∧ w'.cell? ⟨nb, 1, none⟩ = some (.int .i64 n1) ∧ w'.cell? ⟨gw, 0, none⟩ = some (.string (bt kClose))) [0, 1, 2, 3, 4, 5, 6, 7, 8, 9, 10, 11, 12, 13, 14, 15] 15 (by kernel_rfl) (by kernel_rfl) (by kernel_rfl) (by kernel_rfl) (by kernel_rfl) (by kernel_rfl) (MKS.out _ D) ?_
        simp only [pickL, List.filterMap_cons, List.filterMap_nil, List.getElem?_cons_zero, List.getElem?_cons_succ]
        repeat (refine ordL_take (v := ?_) (by rfl) (by rfl) ?_ ?_; rotate_left; (focus (intro w hSw; (try dsimp only at hSw); go_simp; (try with_reducible rfl))); simp only [Act.put, List.setIfInBounds_toArray, List.set_cons_zero, List.set_cons_succ])
        refine ordL_lone (by rfl) (by rfl) (fun KK hK => ?_)
        try go_simp
        refine hK.out _ _ (.inr (MKS.out _ (Below.drew hr5))) ?_
        clear hK KK
        try simp only [Act.put, List.setIfInBounds_toArray, List.set_cons_zero, List.set_cons_succ]
        refine ordL_lone (by rfl) (by rfl) (fun KK hK => ?_)
        refine wp_append1 info_offer rfl (by decide) (by decide) Tryz.underlying56 rfl (.tmp 144) (.tmp 155) rfl (.slice h.fa r.offers.length h.fc) _ _ rfl (World.ownsRow.alloc hos _) w6.heap.size rfl [.int .i64 n0, .string bb, .bool true] rfl ?a1 ?a2 (by omega) (Nat.le_trans hhi hr5.size) ?a3
        case a1 => intro j u hj; exact ((Blk.new w6.drew 93 #[.int .i64 n0, .string bb, .bool true]).cell j).trans (by simpa using hj)
        case a2 => intro u hu; simp at hu; rcases hu with rfl | rfl | rfl <;> rfl
        case a3 =>
        intro ao7 cap7 w7 o7 g7
        have k7 := copy_grown k6 hos (by decide) g7
        have k7' := k7
        unfold rC at k7'
        have d7 := k7'.at6
        clear k7'
        have kn7 := blk_grown kn6 hos (by decide) g7
        have kw7 := blk_grown kw6 hos (by decide) g7
        have hr7 := Below.refl w7.heap.size w7
        refine hK.out _ _ (.inr ⟨(k7.cell 2).trans rfl, kn7.cell 0, kn7.cell 1, (kw7.cell 0).trans HC.out⟩) ?_
        clear hK KK
        try simp only [Act.put, List.setIfInBounds_toArray, List.set_cons_zero, List.set_cons_succ]
        repeat (refine ordL_take (v := ?_) (by rfl) (by rfl) ?_ ?_; rotate_left; (focus (intro w hSw; (try dsimp only at hSw); go_simp; (try with_reducible rfl))); simp only [Act.put, List.setIfInBounds_toArray, List.set_cons_zero, List.set_cons_succ])
        refine ordL_lone (by rfl) (by rfl) (fun KK hK => ?_)
        try go_simp
        refine hK.out _ _ (.inl rfl) ?_
        clear hK KK
        try simp only [Act.put, List.setIfInBounds_toArray, List.set_cons_zero, List.set_cons_succ]
        refine ordL_done ?_
        have L7 := (L6d.later ((Below.refl w6.drew.heap.size w6.drew).alloc (Nat.le_refl _) (.cells #[.int .i64 n0, .string bb, .bool true] 93))).offerG (o := ⟨n0, bb, true⟩) g7 o7
        have t7 := ((t6.trans (Stp.later D (Nat.le_trans L6.lo hhi))).trans (Stp.later ((Below.refl w6.drew.heap.size w6.drew).alloc (Nat.le_refl _) (.cells #[.int .i64 n0, .string bb, .bool true] 93)) (Nat.le_trans L6.lo hhi))).trans (Stp.row (World.ownsRow.alloc hos (.cells #[.int .i64 n0, .string bb, .bool true] 93)) g7 (by decide) L6.lo (Nat.le_trans L6.lo (Nat.le_trans hhi hr5.size)))
        obtain ⟨L8, k8, t8'⟩ := line_put L7 k7 hg1 hg2 (Nat.le_trans L6.lo hg2) 2 (.slice ao7 (r.offers.length + 1) cap7) (by simp [rC])
        have t8 := t7.trans t8'
        clear hr hr5 hos o7 g7 d7 hr7 L7 t7 t8' k6 L6 L6d t6 D k7 kn6 kw6 kn7 kw7 MKS
        obtain ⟨w8, hw8⟩ : ∃ w8, w7.setCell ⟨rb, 2, none⟩ (.slice ao7 (r.offers.length + 1) cap7) = w8 := ⟨_, rfl⟩
        try rw [hw8]
        rw [hw8] at L8 k8 t8
        clear hw8
        have HR : Hid (RS = l0.map Prod.snd ++ [{ r with offers := r.offers ++ [⟨n0, bb, true⟩] }]) := Lib.hid (by rw [← HRS.out, ← HBB.out]; exact upd_last _ _ _)
        have HSL : Hid (Sml (K + 1) (l0.map Prod.snd ++ [{ r with offers := r.offers ++ [⟨n0, bb, true⟩] }])) := Lib.hid (sml_last HSM.out (by simp) (by simp) (by simp))
        obtain ⟨g'', eg2, -, -, dL, fL⟩ := L8.at_
        cases eg2
        have dl : ∀ w', Below w8.heap.size w8 w' → w'.cell? ⟨g, l0.length * 6, none⟩ = some (.int .i64 r.ticks) ∧ w'.cell? ⟨g, l0.length * 6 + 1, none⟩ = some (.slice h.oa r.opens.length h.oc) ∧ w'.cell? ⟨g, l0.length * 6 + 2, none⟩ = some (.slice h.fa r.offers.length h.fc) ∧ w'.cell? ⟨g, l0.length * 6 + 3, none⟩ = some (.slice h.pa r.reports.length h.pc) ∧ w'.cell? ⟨g, l0.length * 6 + 4, none⟩ = some (.int .i64 r.drain) ∧ w'.cell? ⟨g, l0.length * 6 + 5, none⟩ = some (.bool r.abort) ∧ ∀ j, w'.frozen? ⟨g, j, none⟩ = false := fun w' hw => ⟨dL w' hw 0 (by decide), dL w' hw 1 (by decide), dL w' hw 2 (by decide), dL w' hw 3 (by decide), dL w' hw 4 (by decide), dL w' hw 5 (by decide), fL w' hw⟩
        have HE := Lib.hid (line_end L8)
        simp only [List.length_append, List.length_cons, List.length_nil, Nat.zero_add] at HE
        simp only [rC, List.length_append, List.length_cons, List.length_nil, Nat.zero_add] at k8
        have dk := k8.at6
        have hr := Below.refl w8.heap.size w8
        clear dL fL k8 L8
        go_wp2_with fail
        have HE := HE.out _ rfl
        generalize World.setCell _ _ _ = w9 at HE ⊢
        obtain ⟨L9, t9⟩ := HE
        go_ret3
        exact ⟨t8.trans t9, by rw [HX.out]; exact ⟨by rw [HR.out]; exact HSL.out, HLN.out, some ⟨g, 0, none⟩, cap, l0 ++ [({ h with fa := ao7, fc := cap7 }, { r with offers := r.offers ++ [⟨n0, bb, true⟩] })], by rw [HR.out, List.map_append]; rfl, by rw [List.length_append]; rfl, .inr ⟨l0, { h with fa := ao7, fc := cap7 }, _, g, B1, rfl, rfl, L9⟩⟩⟩

      · rcases HS5.out with ⟨e, _⟩ | ⟨l0, h, r, g, B1, rfl, rfl, hL⟩
        · exact absurd (by rw [e]; rfl) (HNE.out (by decide))
        have hlen : (l0 ++ [(h, r)]).length = l0.length + 1 := by simp
        have hmap : (l0 ++ [(h, r)]).map Prod.snd = l0.map Prod.snd ++ [r] := by simp
        rw [hlen] at hl ⊢
        rw [hmap] at HRS HSM HX
        have hrl := HSM.out.2 r (by simp)
        obtain ⟨hr1, hr2, hr3⟩ := hrl
        have s3 : IntKind.i64.wrap (((l0.length + 1 : Nat) : Int) - 1) = (l0.length : Nat) := by rw [IntWalk.i64_in _ (by omega)]; omega
        have e5 : (0 : Int) ≤ ((l0.length : Nat) : Int) := by omega
        have hwn : 0 < W.length := by omega
        have e6 : ((l0.length : Nat) : Int) < ((l0.length + 1 : Nat) : Int) := by omega
        obtain ⟨g', eg, hBg, hgs, dL, fL⟩ := hL.at_
        cases eg
        have dl : ∀ w', Below w5.heap.size w5 w' → w'.cell? ⟨g, l0.length * 6, none⟩ = some (.int .i64 r.ticks) ∧ w'.cell? ⟨g, l0.length * 6 + 1, none⟩ = some (.slice h.oa r.opens.length h.oc) ∧ w'.cell? ⟨g, l0.length * 6 + 2, none⟩ = some (.slice h.fa r.offers.length h.fc) ∧ w'.cell? ⟨g, l0.length * 6 + 3, none⟩ = some (.slice h.pa r.reports.length h.pc) ∧ w'.cell? ⟨g, l0.length * 6 + 4, none⟩ = some (.int .i64 r.drain) ∧ w'.cell? ⟨g, l0.length * 6 + 5, none⟩ = some (.bool r.abort) := fun w' hw => ⟨dL w' hw 0 (by decide), dL w' hw 1 (by decide), dL w' hw 2 (by decide), dL w' hw 3 (by decide), dL w' hw 4 (by decide), dL w' hw 5 (by decide)⟩
        clear dL fL hlen hmap HS5
        obtain ⟨w6, hw6⟩ : ∃ w6, w5.alloc (.cells (rC h r).toArray 59) = w6 := ⟨_, rfl⟩
        have k6 : Blk w6 w5.heap.size 59 (rC h r).toArray := by rw [← hw6]; exact Blk.new _ _ _
        have b6 : Below w5.heap.size w5 w6 := by rw [← hw6]; exact (Below.refl _ _).alloc (Nat.le_refl _) _
        simp only [rC] at hw6
        go_upto_region 23 with fail
        try rw [hw6]
        have t6 := t5.trans (Stp.later b6 hB5)
        have L6 := hL.later b6
        have dW6 := fun w' (hw : Below w6.heap.size w6 w') => dW5 w' (b6.up hw)
        clear dn5
        have dn := (K5.later b6).at2
        have kn6 := K5.later b6
        have kw6 := KW5.later b6
        have hne1 : nb ≠ w5.heap.size := by omega
        have hne2 : gw ≠ w5.heap.size := by omega
        have hg1 : g ≠ w5.heap.size := by omega
        have hg2 : B1 ≤ w5.heap.size := hL.hi
        have hr := Below.refl w6.heap.size w6
        generalize w5.heap.size = rb at *
        clear hw6 t5 hL dW5 dl K5 KW5 b6 hgs hnr hwr
        have k6' := k6
        unfold rC at k6'
        have dk := k6'.at6
        clear k6'
        have c0 : (kRead == [116, 105, 99, 107]) = false := by decide
        have c1 : (kRead == [111, 112, 101, 110]) = false := by decide
        have c2 : (kRead == [111, 102, 102, 101, 114]) = false := by decide
        have c3 : (kRead == [99, 108, 111, 115, 101]) = false := by decide
        have c4 : (kRead == [114, 101, 97, 100]) = true := by decide
        have c5 : (kRead == [119, 114, 105, 116, 101]) = false := by decide
        have c6 : (kRead == [98, 111, 116, 104]) = false := by decide
        have c7 : (kRead == [100, 114, 97, 105, 110]) = false := by decide
        have c8 : (kRead == [97, 98, 111, 114, 116]) = false := by decide
        have D : Below w6.heap.size w6 w6.drew := (Below.refl _ _).drew
        have L6d := L6.later D
        have hos := L6d.cur.ps
        have hr5 : Below w6.heap.size w6 (w6.alloc (.cells #[.int .i64 n0, .bool true, .bool false, .int .i64 0] 95)) := (Below.refl _ _).alloc (Nat.le_refl _) _
        have hhi := L6.hi
        go_upto_region 30 with fail
        have MKS : Hid (∀ w', Below w6.heap.size w6 w' → w'.cell? ⟨rb, 3, none⟩ = some (.slice h.pa r.reports.length h.pc) ∧ w'.cell? ⟨nb, 0, none⟩ = some (.int .i64 n0) ∧ w'.cell? ⟨nb, 1, none⟩ = some (.int .i64 n1) ∧ w'.cell? ⟨gw, 0, none⟩ = some (.string (bt kRead))) := Lib.hid fun w' hw => ⟨((k6.later hw).cell 3).trans rfl, (dn w' hw).1, (dn w' hw).2.1, (dW6 w' hw).1⟩
        have HD := Lib.hid D
        clear dn dW6 dk
        refine wp_region_ordL (S := fun w' => w'.cell? ⟨rb, 3, none⟩ = some (.slice h.pa r.reports.length h.pc) ∧ w'.cell? ⟨nb, 0, none⟩ = some (.int .i64 n0) ∧ w'.cell? ⟨nb, 1, none⟩ = some (.int .i64 n1) ∧ w'.cell? ⟨gw, 0, none⟩ = some (.string (bt kRead))) [0, 1, 2, 3, 4, 5, 6, 7, 8, 9] 9 (by kernel_rfl) (by kernel_rfl) (by kernel_rfl) (by kernel_rfl) (by kernel_rfl) (by kernel_rfl) (MKS.out _ D) ?_
        simp only [pickL, List.filterMap_cons, List.filterMap_nil, List.getElem?_cons_zero, List.getElem?_cons_succ]
        repeat (refine ordL_take (v := ?_) (by rfl) (by rfl) ?_ ?_; rotate_left; (focus (intro w hSw; (try dsimp only at hSw); go_simp; (try with_reducible rfl))); simp only [Act.put, List.setIfInBounds_toArray, List.set_cons_zero, List.set_cons_succ])
        refine ordL_lone (by rfl) (by rfl) (fun KK hK => ?_)
        try go_simp
        refine hK.out _ _ (.inr (MKS.out _ (Below.drew hr5))) ?_
        clear hK KK
        try simp only [Act.put, List.setIfInBounds_toArray, List.set_cons_zero, List.set_cons_succ]
        refine ordL_lone (by rfl) (by rfl) (fun KK hK => ?_)
        refine wp_append1 info_report rfl (by decide) (by decide) Tryz.underlying57 rfl (.tmp 161) (.tmp 166) rfl (.slice h.pa r.reports.length h.pc) _ _ rfl (World.ownsRow.alloc hos _) w6.heap.size rfl [.int .i64 n0, .bool true, .bool false, .int .i64 0] rfl ?a1 ?a2 (by omega) (Nat.le_trans hhi hr5.size) ?a3
        case a1 => intro j u hj; exact ((Blk.new w6.drew 95 #[.int .i64 n0, .bool true, .bool false, .int .i64 0]).cell j).trans (by simpa using hj)
        case a2 => intro u hu; simp at hu; rcases hu with rfl | rfl | rfl | rfl <;> rfl
        case a3 =>
        intro ao7 cap7 w7 o7 g7
        have k7 := copy_grown k6 hos (by decide) g7
        have k7' := k7
        unfold rC at k7'
        have d7 := k7'.at6
        clear k7'
        have kn7 := blk_grown kn6 hos (by decide) g7
        have kw7 := blk_grown kw6 hos (by decide) g7
        have hr7 := Below.refl w7.heap.size w7
        refine hK.out _ _ (.inr ⟨(k7.cell 3).trans rfl, kn7.cell 0, kn7.cell 1, (kw7.cell 0).trans HC.out⟩) ?_
        clear hK KK
        try simp only [Act.put, List.setIfInBounds_toArray, List.set_cons_zero, List.set_cons_succ]
        repeat (refine ordL_take (v := ?_) (by rfl) (by rfl) ?_ ?_; rotate_left; (focus (intro w hSw; (try dsimp only at hSw); go_simp; (try with_reducible rfl))); simp only [Act.put, List.setIfInBounds_toArray, List.set_cons_zero, List.set_cons_succ])
        refine ordL_lone (by rfl) (by rfl) (fun KK hK => ?_)
        try go_simp
        refine hK.out _ _ (.inl rfl) ?_
        clear hK KK
        try simp only [Act.put, List.setIfInBounds_toArray, List.set_cons_zero, List.set_cons_succ]
        refine ordL_done ?_
        have L7 := (L6d.later ((Below.refl w6.drew.heap.size w6.drew).alloc (Nat.le_refl _) (.cells #[.int .i64 n0, .bool true, .bool false, .int .i64 0] 95))).reportG (o := ⟨n0, true, false, 0⟩) g7 o7
        have t7 := ((t6.trans (Stp.later D (Nat.le_trans L6.lo hhi))).trans (Stp.later ((Below.refl w6.drew.heap.size w6.drew).alloc (Nat.le_refl _) (.cells #[.int .i64 n0, .bool true, .bool false, .int .i64 0] 95)) (Nat.le_trans L6.lo hhi))).trans (Stp.row (World.ownsRow.alloc hos (.cells #[.int .i64 n0, .bool true, .bool false, .int .i64 0] 95)) g7 (by decide) L6.lo (Nat.le_trans L6.lo (Nat.le_trans hhi hr5.size)))
        obtain ⟨L8, k8, t8'⟩ := line_put L7 k7 hg1 hg2 (Nat.le_trans L6.lo hg2) 3 (.slice ao7 (r.reports.length + 1) cap7) (by simp [rC])
        have t8 := t7.trans t8'
        clear hr hr5 hos o7 g7 d7 hr7 L7 t7 t8' k6 L6 L6d t6 D k7 kn6 kw6 kn7 kw7 MKS
        obtain ⟨w8, hw8⟩ : ∃ w8, w7.setCell ⟨rb, 3, none⟩ (.slice ao7 (r.reports.length + 1) cap7) = w8 := ⟨_, rfl⟩
        try rw [hw8]
        rw [hw8] at L8 k8 t8
        clear hw8
        have HR : Hid (RS = l0.map Prod.snd ++ [{ r with reports := r.reports ++ [⟨n0, true, false, 0⟩] }]) := Lib.hid (by rw [← HRS.out]; exact upd_last _ _ _)
        have HSL : Hid (Sml (K + 1) (l0.map Prod.snd ++ [{ r with reports := r.reports ++ [⟨n0, true, false, 0⟩] }])) := Lib.hid (sml_last HSM.out (by simp) (by simp) (by simp))
        obtain ⟨g'', eg2, -, -, dL, fL⟩ := L8.at_
        cases eg2
        have dl : ∀ w', Below w8.heap.size w8 w' → w'.cell? ⟨g, l0.length * 6, none⟩ = some (.int .i64 r.ticks) ∧ w'.cell? ⟨g, l0.length * 6 + 1, none⟩ = some (.slice h.oa r.opens.length h.oc) ∧ w'.cell? ⟨g, l0.length * 6 + 2, none⟩ = some (.slice h.fa r.offers.length h.fc) ∧ w'.cell? ⟨g, l0.length * 6 + 3, none⟩ = some (.slice h.pa r.reports.length h.pc) ∧ w'.cell? ⟨g, l0.length * 6 + 4, none⟩ = some (.int .i64 r.drain) ∧ w'.cell? ⟨g, l0.length * 6 + 5, none⟩ = some (.bool r.abort) ∧ ∀ j, w'.frozen? ⟨g, j, none⟩ = false := fun w' hw => ⟨dL w' hw 0 (by decide), dL w' hw 1 (by decide), dL w' hw 2 (by decide), dL w' hw 3 (by decide), dL w' hw 4 (by decide), dL w' hw 5 (by decide), fL w' hw⟩
        have HE := Lib.hid (line_end L8)
        simp only [List.length_append, List.length_cons, List.length_nil, Nat.zero_add] at HE
        simp only [rC, List.length_append, List.length_cons, List.length_nil, Nat.zero_add] at k8
        have dk := k8.at6
        have hr := Below.refl w8.heap.size w8
        clear dL fL k8 L8
        go_wp2_with fail
        have HE := HE.out _ rfl
        generalize World.setCell _ _ _ = w9 at HE ⊢
        obtain ⟨L9, t9⟩ := HE
        go_ret3
        exact ⟨t8.trans t9, by rw [HX.out]; exact ⟨by rw [HR.out]; exact HSL.out, HLN.out, some ⟨g, 0, none⟩, cap, l0 ++ [({ h with pa := ao7, pc := cap7 }, { r with reports := r.reports ++ [⟨n0, true, false, 0⟩] })], by rw [HR.out, List.map_append]; rfl, by rw [List.length_append]; rfl, .inr ⟨l0, { h with pa := ao7, pc := cap7 }, _, g, B1, rfl, rfl, L9⟩⟩⟩

      · rcases HS5.out with ⟨e, _⟩ | ⟨l0, h, r, g, B1, rfl, rfl, hL⟩
        · exact absurd (by rw [e]; rfl) (HNE.out (by decide))
        have hlen : (l0 ++ [(h, r)]).length = l0.length + 1 := by simp
        have hmap : (l0 ++ [(h, r)]).map Prod.snd = l0.map Prod.snd ++ [r] := by simp
        rw [hlen] at hl ⊢
        rw [hmap] at HRS HSM HX
        have hrl := HSM.out.2 r (by simp)
        obtain ⟨hr1, hr2, hr3⟩ := hrl
        have s3 : IntKind.i64.wrap (((l0.length + 1 : Nat) : Int) - 1) = (l0.length : Nat) := by rw [IntWalk.i64_in _ (by omega)]; omega
        have e5 : (0 : Int) ≤ ((l0.length : Nat) : Int) := by omega
        have hwn : 0 < W.length := by omega
        have e6 : ((l0.length : Nat) : Int) < ((l0.length + 1 : Nat) : Int) := by omega
        obtain ⟨g', eg, hBg, hgs, dL, fL⟩ := hL.at_
        cases eg
        have dl : ∀ w', Below w5.heap.size w5 w' → w'.cell? ⟨g, l0.length * 6, none⟩ = some (.int .i64 r.ticks) ∧ w'.cell? ⟨g, l0.length * 6 + 1, none⟩ = some (.slice h.oa r.opens.length h.oc) ∧ w'.cell? ⟨g, l0.length * 6 + 2, none⟩ = some (.slice h.fa r.offers.length h.fc) ∧ w'.cell? ⟨g, l0.length * 6 + 3, none⟩ = some (.slice h.pa r.reports.length h.pc) ∧ w'.cell? ⟨g, l0.length * 6 + 4, none⟩ = some (.int .i64 r.drain) ∧ w'.cell? ⟨g, l0.length * 6 + 5, none⟩ = some (.bool r.abort) := fun w' hw => ⟨dL w' hw 0 (by decide), dL w' hw 1 (by decide), dL w' hw 2 (by decide), dL w' hw 3 (by decide), dL w' hw 4 (by decide), dL w' hw 5 (by decide)⟩
        clear dL fL hlen hmap HS5
        obtain ⟨w6, hw6⟩ : ∃ w6, w5.alloc (.cells (rC h r).toArray 59) = w6 := ⟨_, rfl⟩
        have k6 : Blk w6 w5.heap.size 59 (rC h r).toArray := by rw [← hw6]; exact Blk.new _ _ _
        have b6 : Below w5.heap.size w5 w6 := by rw [← hw6]; exact (Below.refl _ _).alloc (Nat.le_refl _) _
        simp only [rC] at hw6
        go_upto_region 23 with fail
        try rw [hw6]
        have t6 := t5.trans (Stp.later b6 hB5)
        have L6 := hL.later b6
        have dW6 := fun w' (hw : Below w6.heap.size w6 w') => dW5 w' (b6.up hw)
        clear dn5
        have dn := (K5.later b6).at2
        have kn6 := K5.later b6
        have kw6 := KW5.later b6
        have hne1 : nb ≠ w5.heap.size := by omega
        have hne2 : gw ≠ w5.heap.size := by omega
        have hg1 : g ≠ w5.heap.size := by omega
        have hg2 : B1 ≤ w5.heap.size := hL.hi
        have hr := Below.refl w6.heap.size w6
        generalize w5.heap.size = rb at *
        clear hw6 t5 hL dW5 dl K5 KW5 b6 hgs hnr hwr
        have k6' := k6
        unfold rC at k6'
        have dk := k6'.at6
        clear k6'
        have c0 : (kWrite == [116, 105, 99, 107]) = false := by decide
        have c1 : (kWrite == [111, 112, 101, 110]) = false := by decide
        have c2 : (kWrite == [111, 102, 102, 101, 114]) = false := by decide
        have c3 : (kWrite == [99, 108, 111, 115, 101]) = false := by decide
        have c4 : (kWrite == [114, 101, 97, 100]) = false := by decide
        have c5 : (kWrite == [119, 114, 105, 116, 101]) = true := by decide
        have c6 : (kWrite == [98, 111, 116, 104]) = false := by decide
        have c7 : (kWrite == [100, 114, 97, 105, 110]) = false := by decide
        have c8 : (kWrite == [97, 98, 111, 114, 116]) = false := by decide
        have D : Below w6.heap.size w6 w6.drew := (Below.refl _ _).drew
        have L6d := L6.later D
        have hos := L6d.cur.ps
        have hr5 : Below w6.heap.size w6 (w6.alloc (.cells #[.int .i64 n0, .bool false, .bool true, .int .i64 n1] 95)) := (Below.refl _ _).alloc (Nat.le_refl _) _
        have hhi := L6.hi
        go_upto_region 33 with fail
        have MKS : Hid (∀ w', Below w6.heap.size w6 w' → w'.cell? ⟨rb, 3, none⟩ = some (.slice h.pa r.reports.length h.pc) ∧ w'.cell? ⟨nb, 0, none⟩ = some (.int .i64 n0) ∧ w'.cell? ⟨nb, 1, none⟩ = some (.int .i64 n1) ∧ w'.cell? ⟨gw, 0, none⟩ = some (.string (bt kWrite))) := Lib.hid fun w' hw => ⟨((k6.later hw).cell 3).trans rfl, (dn w' hw).1, (dn w' hw).2.1, (dW6 w' hw).1⟩
        have HD := Lib.hid D
        clear dn dW6 dk
        refine wp_region_ordL (S := fun w' => w'.cell? ⟨rb, 3, none⟩ = some (.slice h.pa r.reports.length h.pc) ∧ w'.cell? ⟨nb, 0, none⟩ = some (.int .i64 n0) ∧ w'.cell? ⟨nb, 1, none⟩ = some (.int .i64 n1) ∧ w'.cell? ⟨gw, 0, none⟩ = some (.string (bt kWrite))) [0, 1, 2, 3, 4, 5, 6, 7, 8, 9, 10, 11, 12, 13, 14, 15, 16, 17] 17 (by kernel_rfl) (by kernel_rfl) (by kernel_rfl) (by kernel_rfl) (by kernel_rfl) (by kernel_rfl) (MKS.out _ D) ?_
        simp only [pickL, List.filterMap_cons, List.filterMap_nil, List.getElem?_cons_zero, List.getElem?_cons_succ]
        repeat (refine ordL_take (v := ?_) (by rfl) (by rfl) ?_ ?_; rotate_left; (focus (intro w hSw; (try dsimp only at hSw); go_simp; (try with_reducible rfl))); simp only [Act.put, List.setIfInBounds_toArray, List.set_cons_zero, List.set_cons_succ])
        refine ordL_lone (by rfl) (by rfl) (fun KK hK => ?_)
        try go_simp
        refine hK.out _ _ (.inr (MKS.out _ (Below.drew hr5))) ?_
        clear hK KK
        try simp only [Act.put, List.setIfInBounds_toArray, List.set_cons_zero, List.set_cons_succ]
        refine ordL_lone (by rfl) (by rfl) (fun KK hK => ?_)
        refine wp_append1 info_report rfl (by decide) (by decide) Tryz.underlying57 rfl (.tmp 173) (.tmp 186) rfl (.slice h.pa r.reports.length h.pc) _ _ rfl (World.ownsRow.alloc hos _) w6.heap.size rfl [.int .i64 n0, .bool false, .bool true, .int .i64 n1] rfl ?a1 ?a2 (by omega) (Nat.le_trans hhi hr5.size) ?a3
        case a1 => intro j u hj; exact ((Blk.new w6.drew 95 #[.int .i64 n0, .bool false, .bool true, .int .i64 n1]).cell j).trans (by simpa using hj)
        case a2 => intro u hu; simp at hu; rcases hu with rfl | rfl | rfl | rfl <;> rfl
        case a3 =>
        intro ao7 cap7 w7 o7 g7
        have k7 := copy_grown k6 hos (by decide) g7
        have k7' := k7
        unfold rC at k7'
        have d7 := k7'.at6
        clear k7'
        have kn7 := blk_grown kn6 hos (by decide) g7
        have kw7 := blk_grown kw6 hos (by decide) g7
        have hr7 := Below.refl w7.heap.size w7
        refine hK.out _ _ (.inr ⟨(k7.cell 3).trans rfl, kn7.cell 0, kn7.cell 1, (kw7.cell 0).trans HC.out⟩) ?_
        clear hK KK
        try simp only [Act.put, List.setIfInBounds_toArray, List.set_cons_zero, List.set_cons_succ]
        repeat (refine ordL_take (v := ?_) (by rfl) (by rfl) ?_ ?_; rotate_left; (focus (intro w hSw; (try dsimp only at hSw); go_simp; (try with_reducible rfl))); simp only [Act.put, List.setIfInBounds_toArray, List.set_cons_zero, List.set_cons_succ])
        refine ordL_lone (by rfl) (by rfl) (fun KK hK => ?_)
        try go_simp
        refine hK.out _ _ (.inl rfl) ?_
        clear hK KK
        try simp only [Act.put, List.setIfInBounds_toArray, List.set_cons_zero, List.set_cons_succ]
        refine ordL_done ?_
        have L7 := (L6d.later ((Below.refl w6.drew.heap.size w6.drew).alloc (Nat.le_refl _) (.cells #[.int .i64 n0, .bool false, .bool true, .int .i64 n1] 95))).reportG (o := ⟨n0, false, true, n1⟩) g7 o7
        have t7 := ((t6.trans (Stp.later D (Nat.le_trans L6.lo hhi))).trans (Stp.later ((Below.refl w6.drew.heap.size w6.drew).alloc (Nat.le_refl _) (.cells #[.int .i64 n0, .bool false, .bool true, .int .i64 n1] 95)) (Nat.le_trans L6.lo hhi))).trans (Stp.row (World.ownsRow.alloc hos (.cells #[.int .i64 n0, .bool false, .bool true, .int .i64 n1] 95)) g7 (by decide) L6.lo (Nat.le_trans L6.lo (Nat.le_trans hhi hr5.size)))
        obtain ⟨L8, k8, t8'⟩ := line_put L7 k7 hg1 hg2 (Nat.le_trans L6.lo hg2) 3 (.slice ao7 (r.reports.length + 1) cap7) (by simp [rC])
        have t8 := t7.trans t8'
        clear hr hr5 hos o7 g7 d7 hr7 L7 t7 t8' k6 L6 L6d t6 D k7 kn6 kw6 kn7 kw7 MKS
        obtain ⟨w8, hw8⟩ : ∃ w8, w7.setCell ⟨rb, 3, none⟩ (.slice ao7 (r.reports.length + 1) cap7) = w8 := ⟨_, rfl⟩
        try rw [hw8]
        rw [hw8] at L8 k8 t8
        clear hw8
        have HR : Hid (RS = l0.map Prod.snd ++ [{ r with reports := r.reports ++ [⟨n0, false, true, n1⟩] }]) := Lib.hid (by rw [← HRS.out]; exact upd_last _ _ _)
        have HSL : Hid (Sml (K + 1) (l0.map Prod.snd ++ [{ r with reports := r.reports ++ [⟨n0, false, true, n1⟩] }])) := Lib.hid (sml_last HSM.out (by simp) (by simp) (by simp))
        obtain ⟨g'', eg2, -, -, dL, fL⟩ := L8.at_
        cases eg2
        have dl : ∀ w', Below w8.heap.size w8 w' → w'.cell? ⟨g, l0.length * 6, none⟩ = some (.int .i64 r.ticks) ∧ w'.cell? ⟨g, l0.length * 6 + 1, none⟩ = some (.slice h.oa r.opens.length h.oc) ∧ w'.cell? ⟨g, l0.length * 6 + 2, none⟩ = some (.slice h.fa r.offers.length h.fc) ∧ w'.cell? ⟨g, l0.length * 6 + 3, none⟩ = some (.slice h.pa r.reports.length h.pc) ∧ w'.cell? ⟨g, l0.length * 6 + 4, none⟩ = some (.int .i64 r.drain) ∧ w'.cell? ⟨g, l0.length * 6 + 5, none⟩ = some (.bool r.abort) ∧ ∀ j, w'.frozen? ⟨g, j, none⟩ = false := fun w' hw => ⟨dL w' hw 0 (by decide), dL w' hw 1 (by decide), dL w' hw 2 (by decide), dL w' hw 3 (by decide), dL w' hw 4 (by decide), dL w' hw 5 (by decide), fL w' hw⟩
        have HE := Lib.hid (line_end L8)
        simp only [List.length_append, List.length_cons, List.length_nil, Nat.zero_add] at HE
        simp only [rC, List.length_append, List.length_cons, List.length_nil, Nat.zero_add] at k8
        have dk := k8.at6
        have hr := Below.refl w8.heap.size w8
        clear dL fL k8 L8
        go_wp2_with fail
        have HE := HE.out _ rfl
        generalize World.setCell _ _ _ = w9 at HE ⊢
        obtain ⟨L9, t9⟩ := HE
        go_ret3
        exact ⟨t8.trans t9, by rw [HX.out]; exact ⟨by rw [HR.out]; exact HSL.out, HLN.out, some ⟨g, 0, none⟩, cap, l0 ++ [({ h with pa := ao7, pc := cap7 }, { r with reports := r.reports ++ [⟨n0, false, true, n1⟩] })], by rw [HR.out, List.map_append]; rfl, by rw [List.length_append]; rfl, .inr ⟨l0, { h with pa := ao7, pc := cap7 }, _, g, B1, rfl, rfl, L9⟩⟩⟩

      · rcases HS5.out with ⟨e, _⟩ | ⟨l0, h, r, g, B1, rfl, rfl, hL⟩
        · exact absurd (by rw [e]; rfl) (HNE.out (by decide))
        have hlen : (l0 ++ [(h, r)]).length = l0.length + 1 := by simp
        have hmap : (l0 ++ [(h, r)]).map Prod.snd = l0.map Prod.snd ++ [r] := by simp
        rw [hlen] at hl ⊢
        rw [hmap] at HRS HSM HX
        have hrl := HSM.out.2 r (by simp)
        obtain ⟨hr1, hr2, hr3⟩ := hrl
        have s3 : IntKind.i64.wrap (((l0.length + 1 : Nat) : Int) - 1) = (l0.length : Nat) := by rw [IntWalk.i64_in _ (by omega)]; omega
        have e5 : (0 : Int) ≤ ((l0.length : Nat) : Int) := by omega
        have hwn : 0 < W.length := by omega
        have e6 : ((l0.length : Nat) : Int) < ((l0.length + 1 : Nat) : Int) := by omega
        obtain ⟨g', eg, hBg, hgs, dL, fL⟩ := hL.at_
        cases eg
        have dl : ∀ w', Below w5.heap.size w5 w' → w'.cell? ⟨g, l0.length * 6, none⟩ = some (.int .i64 r.ticks) ∧ w'.cell? ⟨g, l0.length * 6 + 1, none⟩ = some (.slice h.oa r.opens.length h.oc) ∧ w'.cell? ⟨g, l0.length * 6 + 2, none⟩ = some (.slice h.fa r.offers.length h.fc) ∧ w'.cell? ⟨g, l0.length * 6 + 3, none⟩ = some (.slice h.pa r.reports.length h.pc) ∧ w'.cell? ⟨g, l0.length * 6 + 4, none⟩ = some (.int .i64 r.drain) ∧ w'.cell? ⟨g, l0.length * 6 + 5, none⟩ = some (.bool r.abort) := fun w' hw => ⟨dL w' hw 0 (by decide), dL w' hw 1 (by decide), dL w' hw 2 (by decide), dL w' hw 3 (by decide), dL w' hw 4 (by decide), dL w' hw 5 (by decide)⟩
        clear dL fL hlen hmap HS5
        obtain ⟨w6, hw6⟩ : ∃ w6, w5.alloc (.cells (rC h r).toArray 59) = w6 := ⟨_, rfl⟩
        have k6 : Blk w6 w5.heap.size 59 (rC h r).toArray := by rw [← hw6]; exact Blk.new _ _ _
        have b6 : Below w5.heap.size w5 w6 := by rw [← hw6]; exact (Below.refl _ _).alloc (Nat.le_refl _) _
        simp only [rC] at hw6
        go_upto_region 23 with fail
        try rw [hw6]
        have t6 := t5.trans (Stp.later b6 hB5)
        have L6 := hL.later b6
        have dW6 := fun w' (hw : Below w6.heap.size w6 w') => dW5 w' (b6.up hw)
        clear dn5
        have dn := (K5.later b6).at2
        have kn6 := K5.later b6
        have kw6 := KW5.later b6
        have hne1 : nb ≠ w5.heap.size := by omega
        have hne2 : gw ≠ w5.heap.size := by omega
        have hg1 : g ≠ w5.heap.size := by omega
        have hg2 : B1 ≤ w5.heap.size := hL.hi
        have hr := Below.refl w6.heap.size w6
        generalize w5.heap.size = rb at *
        clear hw6 t5 hL dW5 dl K5 KW5 b6 hgs hnr hwr
        have k6' := k6
        unfold rC at k6'
        have dk := k6'.at6
        clear k6'
        have c0 : (kBoth == [116, 105, 99, 107]) = false := by decide
        have c1 : (kBoth == [111, 112, 101, 110]) = false := by decide
        have c2 : (kBoth == [111, 102, 102, 101, 114]) = false := by decide
        have c3 : (kBoth == [99, 108, 111, 115, 101]) = false := by decide
        have c4 : (kBoth == [114, 101, 97, 100]) = false := by decide
        have c5 : (kBoth == [119, 114, 105, 116, 101]) = false := by decide
        have c6 : (kBoth == [98, 111, 116, 104]) = true := by decide
        have c7 : (kBoth == [100, 114, 97, 105, 110]) = false := by decide
        have c8 : (kBoth == [97, 98, 111, 114, 116]) = false := by decide
        have D : Below w6.heap.size w6 w6.drew := (Below.refl _ _).drew
        have L6d := L6.later D
        have hos := L6d.cur.ps
        have hr5 : Below w6.heap.size w6 (w6.alloc (.cells #[.int .i64 n0, .bool true, .bool true, .int .i64 n1] 95)) := (Below.refl _ _).alloc (Nat.le_refl _) _
        have hhi := L6.hi
        go_upto_region 33 with fail
        have MKS : Hid (∀ w', Below w6.heap.size w6 w' → w'.cell? ⟨rb, 3, none⟩ = some (.slice h.pa r.reports.length h.pc) ∧ w'.cell? ⟨nb, 0, none⟩ = some (.int .i64 n0) ∧ w'.cell? ⟨nb, 1, none⟩ = some (.int .i64 n1) ∧ w'.cell? ⟨gw, 0, none⟩ = some (.string (bt kBoth))) := Lib.hid fun w' hw => ⟨((k6.later hw).cell 3).trans rfl, (dn w' hw).1, (dn w' hw).2.1, (dW6 w' hw).1⟩
        have HD := Lib.hid D
        clear dn dW6 dk
        refine wp_region_ordL (S := fun w' => w'.cell? ⟨rb, 3, none⟩ = some (.slice h.pa r.reports.length h.pc) ∧ w'.cell? ⟨nb, 0, none⟩ = some (.int .i64 n0) ∧ w'.cell? ⟨nb, 1, none⟩ = some (.int .i64 n1) ∧ w'.cell? ⟨gw, 0, none⟩ = some (.string (bt kBoth))) [0, 1, 2, 3, 4, 5, 6, 7, 8, 9, 10, 11, 12, 13, 14, 15, 16, 17] 17 (by kernel_rfl) (by kernel_rfl) (by kernel_rfl) (by kernel_rfl) (by kernel_rfl) (by kernel_rfl) (MKS.out _ D) ?_
        simp only [pickL, List.filterMap_cons, List.filterMap_nil, List.getElem?_cons_zero, List.getElem?_cons_succ]
        repeat (refine ordL_take (v := ?_) (by rfl) (by rfl) ?_ ?_; rotate_left; (focus (intro w hSw; (try dsimp only at hSw); go_simp; (try with_reducible rfl))); simp only [Act.put, List.setIfInBounds_toArray, List.set_cons_zero, List.set_cons_succ])
        refine ordL_lone (by rfl) (by rfl) (fun KK hK => ?_)
        try go_simp
        refine hK.out _ _ (.inr (MKS.out _ (Below.drew hr5))) ?_
        clear hK KK
        try simp only [Act.put, List.setIfInBounds_toArray, List.set_cons_zero, List.set_cons_succ]
        refine ordL_lone (by rfl) (by rfl) (fun KK hK => ?_)
        refine wp_append1 info_report rfl (by decide) (by decide) Tryz.underlying57 rfl (.tmp 173) (.tmp 186) rfl (.slice h.pa r.reports.length h.pc) _ _ rfl (World.ownsRow.alloc hos _) w6.heap.size rfl [.int .i64 n0, .bool true, .bool true, .int .i64 n1] rfl ?a1 ?a2 (by omega) (Nat.le_trans hhi hr5.size) ?a3
        case a1 => intro j u hj; exact ((Blk.new w6.drew 95 #[.int .i64 n0, .bool true, .bool true, .int .i64 n1]).cell j).trans (by simpa using hj)
        case a2 => intro u hu; simp at hu; rcases hu with rfl | rfl | rfl | rfl <;> rfl
        case a3 =>
        intro ao7 cap7 w7 o7 g7
        have k7 := copy_grown k6 hos (by decide) g7
        have k7' := k7
        unfold rC at k7'
        have d7 := k7'.at6
        clear k7'
        have kn7 := blk_grown kn6 hos (by decide) g7
        have kw7 := blk_grown kw6 hos (by decide) g7
        have hr7 := Below.refl w7.heap.size w7
        refine hK.out _ _ (.inr ⟨(k7.cell 3).trans rfl, kn7.cell 0, kn7.cell 1, (kw7.cell 0).trans HC.out⟩) ?_
        clear hK KK
        try simp only [Act.put, List.setIfInBounds_toArray, List.set_cons_zero, List.set_cons_succ]
        repeat (refine ordL_take (v := ?_) (by rfl) (by rfl) ?_ ?_; rotate_left; (focus (intro w hSw; (try dsimp only at hSw); go_simp; (try with_reducible rfl))); simp only [Act.put, List.setIfInBounds_toArray, List.set_cons_zero, List.set_cons_succ])
        refine ordL_lone (by rfl) (by rfl) (fun KK hK => ?_)
        try go_simp
        refine hK.out _ _ (.inl rfl) ?_
        clear hK KK
        try simp only [Act.put, List.setIfInBounds_toArray, List.set_cons_zero, List.set_cons_succ]
        refine ordL_done ?_
        have L7 := (L6d.later ((Below.refl w6.drew.heap.size w6.drew).alloc (Nat.le_refl _) (.cells #[.int .i64 n0, .bool true, .bool true, .int .i64 n1] 95))).reportG (o := ⟨n0, true, true, n1⟩) g7 o7
        have t7 := ((t6.trans (Stp.later D (Nat.le_trans L6.lo hhi))).trans (Stp.later ((Below.refl w6.drew.heap.size w6.drew).alloc (Nat.le_refl _) (.cells #[.int .i64 n0, .bool true, .bool true, .int .i64 n1] 95)) (Nat.le_trans L6.lo hhi))).trans (Stp.row (World.ownsRow.alloc hos (.cells #[.int .i64 n0, .bool true, .bool true, .int .i64 n1] 95)) g7 (by decide) L6.lo (Nat.le_trans L6.lo (Nat.le_trans hhi hr5.size)))
        obtain ⟨L8, k8, t8'⟩ := line_put L7 k7 hg1 hg2 (Nat.le_trans L6.lo hg2) 3 (.slice ao7 (r.reports.length + 1) cap7) (by simp [rC])
        have t8 := t7.trans t8'
        clear hr hr5 hos o7 g7 d7 hr7 L7 t7 t8' k6 L6 L6d t6 D k7 kn6 kw6 kn7 kw7 MKS
        obtain ⟨w8, hw8⟩ : ∃ w8, w7.setCell ⟨rb, 3, none⟩ (.slice ao7 (r.reports.length + 1) cap7) = w8 := ⟨_, rfl⟩
        try rw [hw8]
        rw [hw8] at L8 k8 t8
        clear hw8
        have HR : Hid (RS = l0.map Prod.snd ++ [{ r with reports := r.reports ++ [⟨n0, true, true, n1⟩] }]) := Lib.hid (by rw [← HRS.out]; exact upd_last _ _ _)
        have HSL : Hid (Sml (K + 1) (l0.map Prod.snd ++ [{ r with reports := r.reports ++ [⟨n0, true, true, n1⟩] }])) := Lib.hid (sml_last HSM.out (by simp) (by simp) (by simp))
        obtain ⟨g'', eg2, -, -, dL, fL⟩ := L8.at_
        cases eg2
        have dl : ∀ w', Below w8.heap.size w8 w' → w'.cell? ⟨g, l0.length * 6, none⟩ = some (.int .i64 r.ticks) ∧ w'.cell? ⟨g, l0.length * 6 + 1, none⟩ = some (.slice h.oa r.opens.length h.oc) ∧ w'.cell? ⟨g, l0.length * 6 + 2, none⟩ = some (.slice h.fa r.offers.length h.fc) ∧ w'.cell? ⟨g, l0.length * 6 + 3, none⟩ = some (.slice h.pa r.reports.length h.pc) ∧ w'.cell? ⟨g, l0.length * 6 + 4, none⟩ = some (.int .i64 r.drain) ∧ w'.cell? ⟨g, l0.length * 6 + 5, none⟩ = some (.bool r.abort) ∧ ∀ j, w'.frozen? ⟨g, j, none⟩ = false := fun w' hw => ⟨dL w' hw 0 (by decide), dL w' hw 1 (by decide), dL w' hw 2 (by decide), dL w' hw 3 (by decide), dL w' hw 4 (by decide), dL w' hw 5 (by decide), fL w' hw⟩
        have HE := Lib.hid (line_end L8)
        simp only [List.length_append, List.length_cons, List.length_nil, Nat.zero_add] at HE
        simp only [rC, List.length_append, List.length_cons, List.length_nil, Nat.zero_add] at k8
        have dk := k8.at6
        have hr := Below.refl w8.heap.size w8
        clear dL fL k8 L8
        go_wp2_with fail
        have HE := HE.out _ rfl
        generalize World.setCell _ _ _ = w9 at HE ⊢
        obtain ⟨L9, t9⟩ := HE
        go_ret3
        exact ⟨t8.trans t9, by rw [HX.out]; exact ⟨by rw [HR.out]; exact HSL.out, HLN.out, some ⟨g, 0, none⟩, cap, l0 ++ [({ h with pa := ao7, pc := cap7 }, { r with reports := r.reports ++ [⟨n0, true, true, n1⟩] })], by rw [HR.out, List.map_append]; rfl, by rw [List.length_append]; rfl, .inr ⟨l0, { h with pa := ao7, pc := cap7 }, _, g, B1, rfl, rfl, L9⟩⟩⟩

      · rcases HS5.out with ⟨e, _⟩ | ⟨l0, h, r, g, B1, rfl, rfl, hL⟩
        · exact absurd (by rw [e]; rfl) (HNE.out (by decide))
        have hlen : (l0 ++ [(h, r)]).length = l0.length + 1 := by simp
        have hmap : (l0 ++ [(h, r)]).map Prod.snd = l0.map Prod.snd ++ [r] := by simp
        rw [hlen] at hl ⊢
        rw [hmap] at HRS HSM HX
        have hrl := HSM.out.2 r (by simp)
        obtain ⟨hr1, hr2, hr3⟩ := hrl
        have s3 : IntKind.i64.wrap (((l0.length + 1 : Nat) : Int) - 1) = (l0.length : Nat) := by rw [IntWalk.i64_in _ (by omega)]; omega
        have e5 : (0 : Int) ≤ ((l0.length : Nat) : Int) := by omega
        have hwn : 0 < W.length := by omega
        have e6 : ((l0.length : Nat) : Int) < ((l0.length + 1 : Nat) : Int) := by omega
        obtain ⟨g', eg, hBg, hgs, dL, fL⟩ := hL.at_
        cases eg
        have dl : ∀ w', Below w5.heap.size w5 w' → w'.cell? ⟨g, l0.length * 6, none⟩ = some (.int .i64 r.ticks) ∧ w'.cell? ⟨g, l0.length * 6 + 1, none⟩ = some (.slice h.oa r.opens.length h.oc) ∧ w'.cell? ⟨g, l0.length * 6 + 2, none⟩ = some (.slice h.fa r.offers.length h.fc) ∧ w'.cell? ⟨g, l0.length * 6 + 3, none⟩ = some (.slice h.pa r.reports.length h.pc) ∧ w'.cell? ⟨g, l0.length * 6 + 4, none⟩ = some (.int .i64 r.drain) ∧ w'.cell? ⟨g, l0.length * 6 + 5, none⟩ = some (.bool r.abort) := fun w' hw => ⟨dL w' hw 0 (by decide), dL w' hw 1 (by decide), dL w' hw 2 (by decide), dL w' hw 3 (by decide), dL w' hw 4 (by decide), dL w' hw 5 (by decide)⟩
        clear dL fL hlen hmap HS5
        obtain ⟨w6, hw6⟩ : ∃ w6, w5.alloc (.cells (rC h r).toArray 59) = w6 := ⟨_, rfl⟩
        have k6 : Blk w6 w5.heap.size 59 (rC h r).toArray := by rw [← hw6]; exact Blk.new _ _ _
        have b6 : Below w5.heap.size w5 w6 := by rw [← hw6]; exact (Below.refl _ _).alloc (Nat.le_refl _) _
        simp only [rC] at hw6
        go_upto_region 23 with fail
        try rw [hw6]
        have t6 := t5.trans (Stp.later b6 hB5)
        have L6 := hL.later b6
        have dW6 := fun w' (hw : Below w6.heap.size w6 w') => dW5 w' (b6.up hw)
        clear dn5
        have dn := (K5.later b6).at2
        have kn6 := K5.later b6
        have kw6 := KW5.later b6
        have hne1 : nb ≠ w5.heap.size := by omega
        have hne2 : gw ≠ w5.heap.size := by omega
        have hg1 : g ≠ w5.heap.size := by omega
        have hg2 : B1 ≤ w5.heap.size := hL.hi
        have hr := Below.refl w6.heap.size w6
        generalize w5.heap.size = rb at *
        clear hw6 t5 hL dW5 dl K5 KW5 b6 hgs hnr hwr
        have k6' := k6
        unfold rC at k6'
        have dk := k6'.at6
        clear k6'
        have c0 : (kDrain == [116, 105, 99, 107]) = false := by decide
        have c1 : (kDrain == [111, 112, 101, 110]) = false := by decide
        have c2 : (kDrain == [111, 102, 102, 101, 114]) = false := by decide
        have c3 : (kDrain == [99, 108, 111, 115, 101]) = false := by decide
        have c4 : (kDrain == [114, 101, 97, 100]) = false := by decide
        have c5 : (kDrain == [119, 114, 105, 116, 101]) = false := by decide
        have c6 : (kDrain == [98, 111, 116, 104]) = false := by decide
        have c7 : (kDrain == [100, 114, 97, 105, 110]) = true := by decide
        have c8 : (kDrain == [97, 98, 111, 114, 116]) = false := by decide
        have s9 : IntKind.i64.wrap (n0 + 1) = n0 + 1 := IntWalk.i64_in _ (by omega)
        have L7 := L6.drain (n0 + 1)
        obtain ⟨L8, k8, t8'⟩ := line_put L7 k6 hg1 hg2 (Nat.le_trans L6.lo hg2) 4 (.int .i64 (n0 + 1)) (by simp [rC])
        have t8 := t6.trans t8'
        obtain ⟨w8, hw8⟩ : ∃ w8, w6.setCell ⟨rb, 4, none⟩ (.int .i64 (n0 + 1)) = w8 := ⟨_, rfl⟩
        go_upto_region 38 with fail
        try rw [hw8]
        rw [hw8] at L8 k8 t8
        clear hw8 dk hr L7 t8' dW6 dn k6 L6 t6
        have HR : Hid (RS = l0.map Prod.snd ++ [{ r with drain := n0 + 1 }]) := Lib.hid (by rw [← HRS.out]; exact upd_last _ _ _)
        have HSL : Hid (Sml (K + 1) (l0.map Prod.snd ++ [{ r with drain := n0 + 1 }])) := Lib.hid (sml_last HSM.out (by simp) (by simp) (by simp))
        obtain ⟨g'', eg2, -, -, dL, fL⟩ := L8.at_
        cases eg2
        have dl : ∀ w', Below w8.heap.size w8 w' → w'.cell? ⟨g, l0.length * 6, none⟩ = some (.int .i64 r.ticks) ∧ w'.cell? ⟨g, l0.length * 6 + 1, none⟩ = some (.slice h.oa r.opens.length h.oc) ∧ w'.cell? ⟨g, l0.length * 6 + 2, none⟩ = some (.slice h.fa r.offers.length h.fc) ∧ w'.cell? ⟨g, l0.length * 6 + 3, none⟩ = some (.slice h.pa r.reports.length h.pc) ∧ w'.cell? ⟨g, l0.length * 6 + 4, none⟩ = some (.int .i64 r.drain) ∧ w'.cell? ⟨g, l0.length * 6 + 5, none⟩ = some (.bool r.abort) ∧ ∀ j, w'.frozen? ⟨g, j, none⟩ = false := fun w' hw => ⟨dL w' hw 0 (by decide), dL w' hw 1 (by decide), dL w' hw 2 (by decide), dL w' hw 3 (by decide), dL w' hw 4 (by decide), dL w' hw 5 (by decide), fL w' hw⟩
        have HE := Lib.hid (line_end L8)
        simp only [List.length_append, List.length_cons, List.length_nil, Nat.zero_add] at HE
        simp only [rC, List.length_append, List.length_cons, List.length_nil, Nat.zero_add] at k8
        have dk := k8.at6
        have hr := Below.refl w8.heap.size w8
        clear dL fL k8 L8
        go_wp2_with fail
        have HE := HE.out _ rfl
        generalize World.setCell _ _ _ = w9 at HE ⊢
        obtain ⟨L9, t9⟩ := HE
        go_ret3
        exact ⟨t8.trans t9, by rw [HX.out]; exact ⟨by rw [HR.out]; exact HSL.out, HLN.out, some ⟨g, 0, none⟩, cap, l0 ++ [(h, { r with drain := n0 + 1 })], by rw [HR.out, List.map_append]; rfl, by rw [List.length_append]; rfl, .inr ⟨l0, h, _, g, B1, rfl, rfl, L9⟩⟩⟩
      · rcases HS5.out with ⟨e, _⟩ | ⟨l0, h, r, g, B1, rfl, rfl, hL⟩
        · exact absurd (by rw [e]; rfl) (HNE.out (by decide))
        have hlen : (l0 ++ [(h, r)]).length = l0.length + 1 := by simp
        have hmap : (l0 ++ [(h, r)]).map Prod.snd = l0.map Prod.snd ++ [r] := by simp
        rw [hlen] at hl ⊢
        rw [hmap] at HRS HSM HX
        have hrl := HSM.out.2 r (by simp)
        obtain ⟨hr1, hr2, hr3⟩ := hrl
        have s3 : IntKind.i64.wrap (((l0.length + 1 : Nat) : Int) - 1) = (l0.length : Nat) := by rw [IntWalk.i64_in _ (by omega)]; omega
        have e5 : (0 : Int) ≤ ((l0.length : Nat) : Int) := by omega
        have hwn : 0 < W.length := by omega
        have e6 : ((l0.length : Nat) : Int) < ((l0.length + 1 : Nat) : Int) := by omega
        obtain ⟨g', eg, hBg, hgs, dL, fL⟩ := hL.at_
        cases eg
        have dl : ∀ w', Below w5.heap.size w5 w' → w'.cell? ⟨g, l0.length * 6, none⟩ = some (.int .i64 r.ticks) ∧ w'.cell? ⟨g, l0.length * 6 + 1, none⟩ = some (.slice h.oa r.opens.length h.oc) ∧ w'.cell? ⟨g, l0.length * 6 + 2, none⟩ = some (.slice h.fa r.offers.length h.fc) ∧ w'.cell? ⟨g, l0.length * 6 + 3, none⟩ = some (.slice h.pa r.reports.length h.pc) ∧ w'.cell? ⟨g, l0.length * 6 + 4, none⟩ = some (.int .i64 r.drain) ∧ w'.cell? ⟨g, l0.length * 6 + 5, none⟩ = some (.bool r.abort) := fun w' hw => ⟨dL w' hw 0 (by decide), dL w' hw 1 (by decide), dL w' hw 2 (by decide), dL w' hw 3 (by decide), dL w' hw 4 (by decide), dL w' hw 5 (by decide)⟩
        clear dL fL hlen hmap HS5
        obtain ⟨w6, hw6⟩ : ∃ w6, w5.alloc (.cells (rC h r).toArray 59) = w6 := ⟨_, rfl⟩
        have k6 : Blk w6 w5.heap.size 59 (rC h r).toArray := by rw [← hw6]; exact Blk.new _ _ _
        have b6 : Below w5.heap.size w5 w6 := by rw [← hw6]; exact (Below.refl _ _).alloc (Nat.le_refl _) _
        simp only [rC] at hw6
        go_upto_region 23 with fail
        try rw [hw6]
        have t6 := t5.trans (Stp.later b6 hB5)
        have L6 := hL.later b6
        have dW6 := fun w' (hw : Below w6.heap.size w6 w') => dW5 w' (b6.up hw)
        clear dn5
        have dn := (K5.later b6).at2
        have kn6 := K5.later b6
        have kw6 := KW5.later b6
        have hne1 : nb ≠ w5.heap.size := by omega
        have hne2 : gw ≠ w5.heap.size := by omega
        have hg1 : g ≠ w5.heap.size := by omega
        have hg2 : B1 ≤ w5.heap.size := hL.hi
        have hr := Below.refl w6.heap.size w6
        generalize w5.heap.size = rb at *
        clear hw6 t5 hL dW5 dl K5 KW5 b6 hgs hnr hwr
        have k6' := k6
        unfold rC at k6'
        have dk := k6'.at6
        clear k6'
        have c0 : (kAbort == [116, 105, 99, 107]) = false := by decide
        have c1 : (kAbort == [111, 112, 101, 110]) = false := by decide
        have c2 : (kAbort == [111, 102, 102, 101, 114]) = false := by decide
        have c3 : (kAbort == [99, 108, 111, 115, 101]) = false := by decide
        have c4 : (kAbort == [114, 101, 97, 100]) = false := by decide
        have c5 : (kAbort == [119, 114, 105, 116, 101]) = false := by decide
        have c6 : (kAbort == [98, 111, 116, 104]) = false := by decide
        have c7 : (kAbort == [100, 114, 97, 105, 110]) = false := by decide
        have c8 : (kAbort == [97, 98, 111, 114, 116]) = true := by decide
        have L7 := L6.abort true
        obtain ⟨L8, k8, t8'⟩ := line_put L7 k6 hg1 hg2 (Nat.le_trans L6.lo hg2) 5 (.bool true) (by simp [rC])
        have t8 := t6.trans t8'
        obtain ⟨w8, hw8⟩ : ∃ w8, w6.setCell ⟨rb, 5, none⟩ (.bool true) = w8 := ⟨_, rfl⟩
        go_upto_region 38 with fail
        try rw [hw8]
        rw [hw8] at L8 k8 t8
        clear hw8 dk hr L7 t8' dW6 dn k6 L6 t6
        have HR : Hid (RS = l0.map Prod.snd ++ [{ r with abort := true }]) := Lib.hid (by rw [← HRS.out]; exact upd_last _ _ _)
        have HSL : Hid (Sml (K + 1) (l0.map Prod.snd ++ [{ r with abort := true }])) := Lib.hid (sml_last HSM.out (by simp) (by simp) (by simp))
        obtain ⟨g'', eg2, -, -, dL, fL⟩ := L8.at_
        cases eg2
        have dl : ∀ w', Below w8.heap.size w8 w' → w'.cell? ⟨g, l0.length * 6, none⟩ = some (.int .i64 r.ticks) ∧ w'.cell? ⟨g, l0.length * 6 + 1, none⟩ = some (.slice h.oa r.opens.length h.oc) ∧ w'.cell? ⟨g, l0.length * 6 + 2, none⟩ = some (.slice h.fa r.offers.length h.fc) ∧ w'.cell? ⟨g, l0.length * 6 + 3, none⟩ = some (.slice h.pa r.reports.length h.pc) ∧ w'.cell? ⟨g, l0.length * 6 + 4, none⟩ = some (.int .i64 r.drain) ∧ w'.cell? ⟨g, l0.length * 6 + 5, none⟩ = some (.bool r.abort) ∧ ∀ j, w'.frozen? ⟨g, j, none⟩ = false := fun w' hw => ⟨dL w' hw 0 (by decide), dL w' hw 1 (by decide), dL w' hw 2 (by decide), dL w' hw 3 (by decide), dL w' hw 4 (by decide), dL w' hw 5 (by decide), fL w' hw⟩
        have HE := Lib.hid (line_end L8)
        simp only [List.length_append, List.length_cons, List.length_nil, Nat.zero_add] at HE
        simp only [rC, List.length_append, List.length_cons, List.length_nil, Nat.zero_add] at k8
        have dk := k8.at6
        have hr := Below.refl w8.heap.size w8
        clear dL fL k8 L8
        go_wp2_with fail
        have HE := HE.out _ rfl
        generalize World.setCell _ _ _ = w9 at HE ⊢
        obtain ⟨L9, t9⟩ := HE
        go_ret3
        exact ⟨t8.trans t9, by rw [HX.out]; exact ⟨by rw [HR.out]; exact HSL.out, HLN.out, some ⟨g, 0, none⟩, cap, l0 ++ [(h, { r with abort := true })], by rw [HR.out, List.map_append]; rfl, by rw [List.length_append]; rfl, .inr ⟨l0, h, _, g, B1, rfl, rfl, L9⟩⟩⟩
end Go.Proofs.YtmnkekepccdlcaaGreatDoor
