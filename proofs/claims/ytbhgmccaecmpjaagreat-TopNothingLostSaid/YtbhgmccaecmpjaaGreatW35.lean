/-
  engine.Engine: wake, seat, offer, write.
  Conditions: the blocks are known; no deadline has come.
-/
import Derived.Test.YtbhgmccaecmpjaaGreatW34
import Derived.Test.YtbhgmccaecmpjaaGreatW29
namespace Go.Proofs.YtbhgmccaecmpjaaGreat
set_option linter.unusedVariables false
set_option linter.unusedSimpArgs false
open Go.RowKit

set_option maxRecDepth 100000 in
set_option maxHeartbeats 8000000 in
theorem enWake {w : World} {lab : Nat → Nat} {eb : EB} {c : ScT} {E : ET} (h : EngR w lab eb c E) {t : DT} (hd : E.d = some t) (h2 : t.at_ ≤ 2) (hn : t.now ≤ E.clock) (ho : overN t.li t.cu E.clock = 0) (hu : nextT t = nev ∨ 0 ≤ nextT t) (u : Int) :
    Calls Tryz.prog 36 #[.pointer (some ⟨eb.x, 0, none⟩), .agg #[.int .i64 u, .int .i64 0]] w fun e w' => ∃ lab' lv, e = .returned (.tuple #[]) ∧ LabEq lab lab' w ∧ EngR w' lab' { eb with hl := lv } c (settleT c E t) ∧ Foot (fun i => isE (lab i)) w w' := by
  obtain ⟨q, hq⟩ : ∃ q, w.heap.size = q := ⟨_, rfl⟩
  obtain ⟨w1, hw1⟩ : ∃ w1, w1 = w.alloc (.cells #[.int .i64 u, .int .i64 0] 100) := ⟨_, rfl⟩
  have b1 : Below w.heap.size w w1 := by rw [hw1]; exact Below.alloc (Below.refl _ _) (Nat.le_refl _) _
  have K1 : Blk w1 q 100 #[.int .i64 u, .int .i64 0] := by rw [hw1, ← hq]; exact Blk.new _ _ _
  have FS := Lib.hid (enSettle (h.later b1) hd h2 hn ho hu)
  have HW1 := Lib.hid hw1
  have HQ := Lib.hid hq
  have B1 := Lib.hid b1
  clear hw1 hq b1 h hd h2 hn ho hu
  go_enter Tryz.func36, Tryz.ntmps36
  go_upto_region 1 with fail
  rw [← HW1.out, HQ.out]
  have d1 := K1.at2
  have hr := Below.refl w1.heap.size w1
  go_wp2_with fail
  refine FS.out.mono ?_; rintro r w2 ⟨lab', lv, rfl, e2, h2, f2⟩
  have B2 := Lib.hid f2
  have E2 := Lib.hid e2
  have H2 := Lib.hid h2
  clear d1 hr f2 e2 h2
  go_wp2_with fail
  go_end0
  exact ⟨lab', lv, rfl, fun i hi => E2.out i (Nat.lt_of_lt_of_le hi B1.out.size), H2.out, (Foot.later B1.out).trans B2.out⟩
set_option maxRecDepth 100000 in
set_option maxHeartbeats 8000000 in
theorem enSeat {w : World} {lab : Nat → Nat} {eb : EB} {c : ScT} {E : ET} (h : EngR w lab eb c E) :
    Calls Tryz.prog 51 #[.pointer (some ⟨eb.x, 0, none⟩), .int .i64 0] w fun e w' => e = .returned (.tuple #[E.sv eb, .int .i64 0, .bool E.d.isSome]) ∧ Below w.heap.size w w' := by
  have d1 := h.at_ (by simp)
  have hr := Below.refl w.heap.size w
  have hl0 : 0 < c.l := h.ok.l.1
  have hl1 : (0 : Int) < (c.l : Int) := by omega
  have FS : Hid (∀ w', Below w.heap.size w w' → Calls Tryz.prog 81 #[.pointer (some ⟨eb.sl.x, 0, none⟩), .int .i64 0] w' fun e w'' => e = .returned (.tuple #[.int .i64 0, .bool E.d.isSome]) ∧ w' = w'') := Lib.hid fun w' hb => slSlot ((h.later hb).slo (by simp))
  have d3 := (h.sea (by simp)).at_
  unfold ET.sv at d3 ⊢
  clear h
  cases hs : E.d.isSome
  · rw [hs] at FS
    rw [if_neg (by decide)]
    clear d3 hs
    go_enter Tryz.func51, Tryz.ntmps51
    go_wp2_with fail
    refine (FS.out _ (by (repeat' (first | exact Below.refl _ _ | assumption | exact And.left (by assumption) | apply bel_alloc | apply Below.drew)))).mono ?_; rintro r w1 ⟨rfl, rfl⟩
    go_wp2_with fail
    exact bodyPost_ret (v := .tuple #[.pointer none, .int .i64 0, .bool false]) (by simp [results, Tryz.results51, go_sem]) rfl ⟨rfl, by (repeat' (first | exact Below.refl _ _ | assumption | apply Below.drew | apply below_drewN | refine Below.setCell ?_ (by first | assumption | (simp; done) | (simp <;> omega)) _ | refine Below.alloc ?_ (by first | exact Nat.le_refl _ | assumption | (simp; done) | (simp <;> omega)) _))⟩
  · rw [hs] at FS
    rw [if_pos rfl]
    simp only [hs, if_true] at d3
    clear hs
    go_enter Tryz.func51, Tryz.ntmps51
    go_wp2_with fail
    refine (FS.out _ (by (repeat' (first | exact Below.refl _ _ | assumption | exact And.left (by assumption) | apply bel_alloc | apply Below.drew)))).mono ?_; rintro r w1 ⟨rfl, rfl⟩
    go_wp2_with fail
    exact bodyPost_ret (v := .tuple #[.pointer (some ⟨eb.se, 0, none⟩), .int .i64 0, .bool true]) (by simp [results, Tryz.results51, go_sem]) rfl ⟨rfl, by (repeat' (first | exact Below.refl _ _ | assumption | apply Below.drew | apply below_drewN | refine Below.setCell ?_ (by first | assumption | (simp; done) | (simp <;> omega)) _ | refine Below.alloc ?_ (by first | exact Nat.le_refl _ | assumption | (simp; done) | (simp <;> omega)) _))⟩
theorem enSeatS {w : World} {lab : Nat → Nat} {eb : EB} {c : ScT} {E : ET} (h : EngR w lab eb c E) (hs : E.d.isSome = true) :
    Calls Tryz.prog 51 #[.pointer (some ⟨eb.x, 0, none⟩), .int .i64 0] w fun e w' => e = .returned (.tuple #[.pointer (some ⟨eb.se, 0, none⟩), .int .i64 0, .bool true]) ∧ Below w.heap.size w w' := by
  have := enSeat h
  unfold ET.sv at this
  rwa [hs, if_pos rfl] at this
theorem enSeatN {w : World} {lab : Nat → Nat} {eb : EB} {c : ScT} {E : ET} (h : EngR w lab eb c E) (hs : E.d.isSome = false) :
    Calls Tryz.prog 51 #[.pointer (some ⟨eb.x, 0, none⟩), .int .i64 0] w fun e w' => e = .returned (.tuple #[.pointer none, .int .i64 0, .bool false]) ∧ Below w.heap.size w w' := by
  have := enSeat h
  unfold ET.sv at this
  rwa [hs, if_neg (by decide)] at this
end Go.Proofs.YtbhgmccaecmpjaaGreat

namespace Go.Proofs.YtbhgmccaecmpjaaGreat
set_option linter.unusedVariables false
set_option linter.unusedSimpArgs false
open Go.RowKit

section
variable {w w' : World} {lab lab' : Nat → Nat} {eb : EB} {c : ScT} {E : ET} {o : List Nat} {F : Nat → Prop}
theorem EngX.wired (h : EngX o w lab eb c E) (hs : E.d.isSome = true) (f : Foot (fun i => i = eb.wx ∨ eb.wl.ownBlock = some i) w w') {wl : Value} {S : List UInt8} {snt rd : Int} (hw : ∃ a ps, Wir w' eb.wx wl S snt rd false a ps) (g : Grew eb.wl wl w) : EngX o w' (labNew lab w 10) { eb with wl := wl } c { E with wb := S, snt := snt, rd := rd } := by
  have h0 := h.relab (labNew_eq lab w 10)
  have h' := h0.foot f [10] (fun i hi => by
    rcases hi with rfl | hi
    · rw [(h0.lb.wx hs).1, cls_low (by omega)]; simp
    · rw [(h0.lb.wl hs i hi).1, cls_low (by omega)]; simp) (by simp)
  have L := h'.lb
  refine ⟨fun k => h'.blk (off1 _ k (by decide)), fun k => h'.slo (off1 _ k (by decide)), h'.sok, fun k => h'.sea (off1 _ k (by decide)), fun k => h'.tur (off1 _ k (by decide)), h'.tok, fun k => h'.hea (off1 _ k (by decide)), fun k => h'.map (off1 _ k (by decide)), h'.row, h'.scr, fun k => h'.out (off1 _ k (by decide)), fun k => h'.sat (off1 _ k (by decide)), fun _ _ => hw, fun k => h'.dia (off1 _ k (by decide)), ⟨L.x, L.sl, L.sa, L.tb, L.he, L.mm, L.sg, L.sb, L.ov, L.se, L.wx, fun _ i hi => ?_, L.dx⟩, h'.ok⟩
  obtain ⟨a, ps, hw⟩ := hw
  refine ⟨?_, Pieces.lt hw.pcs hi⟩
  rcases g i hi with hg | hg
  · exact (L.wl hs i hg).1
  · exact labNew_new hg
theorem Foot.relab (f : Foot (fun i => isD (lab i)) w w') (e : LabEq lab lab' w) : Foot (fun i => isD (lab' i)) w w' := (Foot.refl _ w).then f (fun i hi hd => by rw [e i hi]; exact hd)
theorem EngX.dialed (h : EngX o w lab eb c E) (hs : E.d.isSome = true) (f : Foot (fun i => isD (lab i)) w w') (e : LabEq lab lab' w) {b' : DB} {t' : DT} (hd : DiaR w' lab' b' c t') (hx : b'.x = eb.db.x) : EngX o w' lab' { eb with db := b' } c { E with d := some t' } := by
  have h0 := h.relab e
  have h' := h0.foot (f.relab e) [20] (fun i hi => by rw [cls_d hi]; simp) (by simp)
  have L := h'.lb
  have hsv : ET.sv { E with d := some t' } { eb with db := b' } = E.sv eb := by unfold ET.sv; rw [hs]; rfl
  refine ⟨fun k => h'.blk (off1 _ k (by decide)), fun k => ?_, h'.sok, fun k => ?_, fun k => h'.tur (off1 _ k (by decide)), h'.tok, fun k => h'.hea (off1 _ k (by decide)), fun k => h'.map (off1 _ k (by decide)), h'.row, h'.scr, fun k => h'.out (off1 _ k (by decide)), fun k _ => ?_, fun k _ => h'.wir (off1 _ k (by decide)) hs, fun _ t ht => ?_, ⟨L.x, L.sl, L.sa, L.tb, L.he, L.mm, L.sg, L.sb, L.ov, fun _ => L.se hs, fun _ => L.wx hs, fun _ => L.wl hs, fun _ => ?_⟩, h'.ok⟩
  · have := h'.slo (off1 _ k (by decide)); rw [hs] at this; exact this
  · rw [hsv]; exact h'.sea (off1 _ k (by decide))
  · have := h'.sat (off1 _ k (by decide)) hs; rw [← hx] at this; exact this
  · cases ht; exact hd
  · show lab' b'.x = 27 ∧ b'.x < _
    rw [hx]
    exact L.dx hs
end
set_option maxRecDepth 100000 in
set_option maxHeartbeats 8000000 in
theorem enOffer {w : World} {lab : Nat → Nat} {eb : EB} {c : ScT} {E : ET} (h : EngR w lab eb c E) (hs : E.d.isSome = true) (u : ByteArray) (hu : u.size ≤ 4096) (hS : E.wb.length ≤ 500000) (hse : 0 ≤ E.snt ∧ E.snt ≤ 500000) :
    Calls Tryz.prog 30 #[.pointer (some ⟨eb.x, 0, none⟩), .agg #[.int .i64 0, .string u, .bool false]] w fun e w' => ∃ lab' wl, e = .returned (.tuple #[]) ∧ LabEq lab lab' w ∧ EngR w' lab' { eb with wl := wl } c { E with wb := E.wb ++ u.data.toList, snt := E.snt + u.size } ∧ Foot (fun i => isE (lab i)) w w' := by
  obtain ⟨q, hq⟩ : ∃ q, w.heap.size = q := ⟨_, rfl⟩
  obtain ⟨w1, hw1⟩ : ∃ w1, w1 = w.alloc (.cells #[.int .i64 0, .string u, .bool false] 35) := ⟨_, rfl⟩
  have b1 : Below w.heap.size w w1 := by rw [hw1]; exact Below.alloc (Below.refl _ _) (Nat.le_refl _) _
  have K1 : Blk w1 q 35 #[.int .i64 0, .string u, .bool false] := by rw [hw1, ← hq]; exact Blk.new _ _ _
  have FS := Lib.hid (enSeatS (h.later b1) hs)
  have HW1 := Lib.hid hw1
  have HQ := Lib.hid hq
  have B1 := Lib.hid b1
  have H1 := Lib.hid (h.later b1)
  have HH := Lib.hid h
  have HC := Lib.hid (And.intro hs (And.intro hu (And.intro hS hse)))
  clear hw1 hq b1 h hs hu hS hse
  go_enter Tryz.func30, Tryz.ntmps30
  go_upto_region 1 with fail
  rw [← HW1.out, HQ.out]
  have d1 := K1.at3
  have hr := Below.refl w1.heap.size w1
  go_wp2_with fail
  refine FS.out.mono ?_; rintro r w2 ⟨rfl, b2⟩
  have H2 := H1.out.later b2
  have K2 := K1.later b2
  have d9 := H2.atS (by simp) (by simp) HC.out.1
  clear d1 hr FS
  have d1 := K2.at3
  have hr := Below.refl w2.heap.size w2
  have FO : Hid (∀ w', Below w2.heap.size w2 w' → Calls Tryz.prog 52 #[.pointer (some ⟨eb.wx, 0, none⟩), .string u, .bool false] w' fun e w'' => e = .returned (.bool true) ∧ ∃ a, Offered w' eb.wx a eb.wl (E.wb ++ u.data.toList) (E.snt + u.size) E.rd false w'') := Lib.hid fun w' hb => by
    obtain ⟨a, ps, hw⟩ := (H2.later hb).wir (by simp) HC.out.1
    exact (wOffer1 _ _ _ _ _ _ _ _ _ _ hw HC.out.2.1 HC.out.2.2.1 HC.out.2.2.2).mono fun e w'' ⟨h1, h2⟩ => ⟨h1, a, h2⟩
  have HH2 := Lib.hid H2
  have B2 := Lib.hid (B1.out.up b2)
  clear H2 b2
  go_upto_region 3 with fail
  refine wp_region_ordL (S := fun w' => Below w2.heap.size w2 w') [0, 1, 2, 3, 4, 5, 6, 7, 8] 8 (by kernel_rfl) (by kernel_rfl) (by kernel_rfl) (by kernel_rfl) (by kernel_rfl) (by kernel_rfl) (by (repeat' (first | exact Below.refl _ _ | assumption | exact And.left (by assumption) | apply bel_alloc | apply Below.drew))) ?_
  simp only [pickL, List.filterMap_cons, List.filterMap_nil, List.getElem?_cons_zero, List.getElem?_cons_succ]
  repeat (refine ordL_take (v := ?_) (by rfl) (by rfl) ?_ ?_; rotate_left; (focus (intro w hSw; (try dsimp only at hSw); go_simp; (try with_reducible rfl))); simp only [Act.put, List.setIfInBounds_toArray, List.set_cons_zero, List.set_cons_succ])
  refine ordL_lone (by rfl) (by rfl) (fun KK hK => ?_)
  try go_simp
  refine (FO.out _ (by (repeat' (first | exact Below.refl _ _ | assumption | exact And.left (by assumption) | apply bel_alloc | apply Below.drew)))).mono ?_; rintro r w3 ⟨rfl, a, lv, ps, hw, hg, ht⟩
  refine hK.out _ _ (.inl (by trivial)) ?_
  clear hK KK
  try simp only [Act.put, List.setIfInBounds_toArray, List.set_cons_zero, List.set_cons_succ]
  refine ordL_done ?_
  have f3 : Foot (fun i => i = eb.wx ∨ eb.wl.ownBlock = some i) w2.drew w3 := ⟨ht.os, ht.tape, ht.output, ht.size, fun i hi hn => ht.block i hi (fun e => hn (.inl e)) (fun e => hn (.inr e))⟩
  have f3' : Foot (fun i => i = eb.wx ∨ eb.wl.ownBlock = some i) w2 w3 := (Foot.later (Below.refl _ _).drew).trans f3
  have g3 : Grew eb.wl lv w2 := fun g hg' => by
    rcases hg with h | h
    · exact .inl (h ▸ hg')
    · exact .inr (h g hg')
  have T := Lib.hid (HH2.out.wired HC.out.1 f3' ⟨a, ps, hw⟩ g3)
  have f4 : Foot (fun i => isE (lab i)) w w3 := (Foot.later B2.out).then f3' (fun i hi hf => by
    show isE (lab i)
    rcases hf with rfl | hf
    · rw [(HH.out.lb.wx HC.out.1).1]; unfold isE; omega
    · rw [(HH.out.lb.wl HC.out.1 i hf).1]; unfold isE; omega)
  have F4 := Lib.hid f4
  clear f3 f3' g3 hw hg ht f4 d1 d9 hr
  go_wp2_with fail
  go_end0
  exact ⟨_, lv, rfl, fun i hi => labNew_old (Nat.lt_of_lt_of_le hi B2.out.size), T.out, F4.out⟩
end Go.Proofs.YtbhgmccaecmpjaaGreat

namespace Go.Proofs.YtbhgmccaecmpjaaGreat
set_option linter.unusedVariables false
set_option linter.unusedSimpArgs false
open Go.RowKit

/-- What of the wire is read at once. -/
def readK (c : ScT) (E : ET) (t : DT) : Nat := min (c.r - t.inb.length) E.wb.length
def readT (c : ScT) (E : ET) (t : DT) : ET := { E with d := some { t with inb := t.inb ++ E.wb.take (readK c E t) }, wb := E.wb.drop (readK c E t), rd := E.rd + readK c E t, out := if readK c E t = 0 then E.out else E.out ++ [⟨4, 0, readK c E t, 0, ⟨(E.wb.take (readK c E t)).toArray⟩, 0, 0, 0, 0, 0, 0, 0⟩] }
theorem readT_no {c : ScT} {E : ET} {t : DT} (hd : E.d = some t) (hk : readK c E t = 0) : readT c E t = E := by
  unfold readT
  rw [hk]
  cases E
  simp only [List.take_zero, List.append_nil, List.drop_zero] at *
  subst hd
  simp
set_option maxRecDepth 100000 in
set_option maxHeartbeats 8000000 in
theorem enRead {w : World} {lab : Nat → Nat} {eb : EB} {c : ScT} {E : ET} (h : EngR w lab eb c E) {t : DT} (hd : E.d = some t) (hS : E.wb.length ≤ 500000) (hrd : 0 ≤ E.rd ∧ E.rd ≤ 500000) (hl : E.out.length ≤ 1000000) :
    Calls Tryz.prog 54 #[.pointer (some ⟨eb.x, 0, none⟩), .pointer (some ⟨eb.se, 0, none⟩)] w fun e w' => ∃ lab' eb', e = .returned (.tuple #[]) ∧ LabEq lab lab' w ∧ EngR w' lab' eb' c (readT c E t) ∧ eb'.x = eb.x ∧ eb'.se = eb.se ∧ Foot (fun i => isE (lab i)) w w' := by
  have hs : E.d.isSome = true := by rw [hd]; rfl
  have HH := Lib.hid h
  have HC := Lib.hid (And.intro hd (And.intro hs (And.intro hS (And.intro hrd hl))))
  obtain ⟨rm, hrm⟩ : ∃ rm : Nat, rm = c.r - t.inb.length := ⟨_, rfl⟩
  have HRM := Lib.hid hrm
  have FR : Hid (∀ w', Below w.heap.size w w' → Calls Tryz.prog 83 #[.pointer (some ⟨eb.db.x, 0, none⟩)] w' fun e w'' => e = .returned (.int .i64 (rm : Nat)) ∧ Below w'.heap.size w' w'') := Lib.hid fun w' hb => by rw [hrm]; exact diRoom ((h.later hb).dia (by simp) t hd)
  have d9 := h.atS (by simp) (by simp) hs
  have hr := Below.refl w.heap.size w
  clear hrm h hd hS hrd hl hs
  go_enter Tryz.func54, Tryz.ntmps54
  go_wp2_with fail
  refine (FR.out _ (by (repeat' (first | exact Below.refl _ _ | assumption | exact And.left (by assumption) | apply bel_alloc | apply Below.drew)))).mono ?_; rintro r w1 ⟨rfl, b1⟩
  have b1' : Below w.heap.size w w1 := by first | exact b1 | exact (Below.refl w.heap.size w).drew.up b1
  have H1 := HH.out.later b1'
  have B1 := Lib.hid b1'
  clear d9 hr FR b1 b1'
  have d9 := H1.atS (by simp) (by simp) HC.out.2.1
  have hr := Below.refl w1.heap.size w1
  by_cases h0 : rm = 0
  · subst h0
    have hk : readK c E t = 0 := by unfold readK; rw [← HRM.out]; omega
    have HK := Lib.hid hk
    clear hk
    go_wp2_with fail
    refine bodyPost_ret (results_none rfl _ _ _) rfl ?_
    exact ⟨lab, eb, rfl, LabEq.refl _ _, by rw [readT_no HC.out.1 HK.out]; exact H1, rfl, rfl, Foot.later B1.out⟩
  · have h0' : ¬ ((rm : Nat) : Int) = 0 := by omega
    have FT : Hid (∀ w', Below w1.heap.size w1 w' → Calls Tryz.prog 84 #[.pointer (some ⟨eb.wx, 0, none⟩), .int .i64 (rm : Nat)] w' fun e w'' => e = .returned (.string ⟨(E.wb.take (readK c E t)).toArray⟩) ∧ Took w' eb.wx eb.wl (E.wb.drop (readK c E t)) E.snt (E.rd + readK c E t) false w'') := Lib.hid fun w' hb => by
      obtain ⟨a, ps, hw⟩ := (H1.later hb).wir (by simp) HC.out.2.1
      have hk : wK (rm : Nat) E.wb = readK c E t := by unfold wK readK; rw [← HRM.out]; rfl
      have := wTake _ _ _ _ _ _ _ _ (rm : Nat) _ hw HC.out.2.2.1 HC.out.2.2.2.1
      rwa [hk] at this
    have HH1 := Lib.hid H1
    clear H1
    go_wp2_with fail
    refine (FT.out _ (by (repeat' (first | exact Below.refl _ _ | assumption | exact And.left (by assumption) | apply bel_alloc | apply Below.drew)))).mono ?_; rintro r w2 ⟨rfl, lv, a, ps, hw, hg, hgr⟩
    have f2 : Foot (fun i => i = eb.wx ∨ eb.wl.ownBlock = some i) w1 w2 := by
      have := Foot.grown hgr (F := fun i => i = eb.wx ∨ eb.wl.ownBlock = some i) (fun g hg' => .inl (Option.some.inj hg').symm)
      first | exact this | exact (Foot.later (Below.refl _ _).drew).trans this
    have T2 := HH1.out.wired HC.out.2.1 f2 ⟨a, ps, hw⟩ (fun g hg' => .inl (hg ▸ hg'))
    have e2 : LabEq lab (labNew lab w1 10) w := fun i hi => labNew_old (Nat.lt_of_lt_of_le hi B1.out.size)
    have F2 : Foot (fun i => isE (lab i)) w w2 := (Foot.later B1.out).then f2 (fun i hi hf => by
      show isE (lab i)
      rcases hf with rfl | hf
      · rw [(HH.out.lb.wx HC.out.2.1).1]; unfold isE; omega
      · rw [(HH.out.lb.wl HC.out.2.1 i hf).1]; unfold isE; omega)
    obtain ⟨lab2, hlab2⟩ : ∃ l, l = labNew lab w1 10 := ⟨_, rfl⟩
    rw [← hlab2] at T2 e2
    clear hlab2 d9 hr FT hw hg hgr f2 HH1
    have d9 := T2.atS (by simp) (by simp) HC.out.2.1
    dsimp only at d9
    have hr := Below.refl w2.heap.size w2
    obtain ⟨u, hu⟩ : ∃ u : ByteArray, u = ⟨(E.wb.take (readK c E t)).toArray⟩ := ⟨_, rfl⟩
    rw [← hu]
    have HU := Lib.hid hu
    have TT := Lib.hid T2
    have E2 := Lib.hid e2
    have FF2 := Lib.hid F2
    have hsz : u.size = readK c E t := by rw [hu]; show (E.wb.take (readK c E t)).toArray.size = _; simp; unfold readK; omega
    have HSZ := Lib.hid hsz
    clear hu T2 e2 F2 hsz
    by_cases hk : readK c E t = 0
    · have hu0 : u = ⟨#[]⟩ := ByteArray.ext (Array.eq_empty_of_size_eq_zero (HSZ.out.trans hk))
      subst hu0
      have H3 := TT.out
      have HK := Lib.hid hk
      clear hk
      have FV : Hid (∀ w', Below w2.heap.size w2 w' → Calls Tryz.prog 86 #[.pointer (some ⟨eb.wx, 0, none⟩)] w' fun e w'' => e = .returned (.bool false) ∧ Below w'.heap.size w' w'') := Lib.hid fun w' hb => by
        obtain ⟨a, ps, hw⟩ := (H3.later hb).wir (by simp) HC.out.2.1
        exact wOver _ _ _ _ _ _ _ _ _ hw
      clear H3
      go_wp2_with fail
      refine (FV.out _ (by (repeat' (first | exact Below.refl _ _ | assumption | exact And.left (by assumption) | apply bel_alloc | apply Below.drew)))).mono ?_; rintro r w3 ⟨rfl, b3⟩
      have b3' : Below w2.heap.size w2 w3 := by first | exact b3 | exact (Below.refl w2.heap.size w2).drew.up b3
      go_wp2_with fail
      go_end0
      refine ⟨lab2, { eb with wl := lv }, rfl, E2.out, ?_, rfl, rfl, FF2.out.up b3'⟩
      rw [readT_no HC.out.1 HK.out]
      have := TT.out.later b3'
      rw [HK.out] at this
      have e : ({ E with wb := E.wb.drop 0, snt := E.snt, rd := E.rd + (0 : Nat) } : ET) = E := by cases E; simp
      rwa [e] at this
    · have hu1 : u.toList.isEmpty = false := strSome (by rw [HSZ.out]; omega)
      have hus : u.size ≤ c.r - t.inb.length := by rw [HSZ.out]; unfold readK; omega
      have FP : Hid (∀ w', Below w2.heap.size w2 w' → Calls Tryz.prog 85 #[.pointer (some ⟨eb.db.x, 0, none⟩), .string u] w' fun e w'' => e = .returned (.int .i64 (u.size : Nat)) ∧ DiaR w'' lab2 eb.db c { t with inb := t.inb ++ u.data.toList } ∧ Foot (fun i => isD (lab2 i)) w' w'') := Lib.hid fun w' hb => diPut ((TT.out.later hb).dia (by simp) t HC.out.1) u hus
      have HK := Lib.hid hk
      clear hk hus
      go_wp2_with fail
      refine (FP.out _ (by (repeat' (first | exact Below.refl _ _ | assumption | exact And.left (by assumption) | apply bel_alloc | apply Below.drew)))).mono ?_; rintro r w3 ⟨rfl, hd3, f3⟩
      have f3' : Foot (fun i => isD (lab2 i)) w2 w3 := by first | exact f3 | exact (Foot.later (Below.refl _ _).drew).trans f3
      have T3 := TT.out.dialed HC.out.2.1 f3' (LabEq.refl _ _) hd3 rfl
      have B3 := Lib.hid (FF2.out.then f3' (fun i hi hdd => by
        show isE (lab i)
        rw [E2.out i hi] at hdd
        unfold isD at hdd; unfold isE; omega))
      have T3' := Lib.hid T3
      clear T3 f3 f3' hd3 FP d9 hr
      have d9 := T3'.out.atS (by simp) (by simp) rfl
      dsimp only at d9
      have hr := Below.refl w3.heap.size w3
      have FL : Hid (∀ w', Below w3.heap.size w3 w' → Calls Tryz.prog 26 #[.pointer (some ⟨eb.x, 0, none⟩), .agg #[.int .i64 4, .int .i64 0, .int .i64 (u.size : Nat), .int .i64 0, .string u, .int .i64 0, .int .i64 0, .int .i64 0, .int .i64 0, .int .i64 0, .int .i64 0, .int .i64 0]] w' fun e w'' => e = .returned (.tuple #[]) ∧ ∃ lab3 ov, LabEq lab2 lab3 w' ∧ EngR w'' lab3 { eb with wl := lv, ov := ov } c { E with wb := E.wb.drop (readK c E t), snt := E.snt, rd := E.rd + readK c E t, d := some { t with inb := t.inb ++ u.data.toList }, out := E.out ++ [⟨4, 0, (u.size : Nat), 0, u, 0, 0, 0, 0, 0, 0, 0⟩] } ∧ Foot (fun i => lab2 i = 1 ∨ lab2 i = 8) w' w'') := Lib.hid fun w' hb =>
        (enTell (T3'.out.later hb) (by simp) (by simp) HC.out.2.2.2.2 4 0 (u.size : Nat) 0 u 0 0 0 0 0 0 0).mono fun e w'' ⟨lab3, ov, h1, h2, h3, h4⟩ => ⟨h1, lab3, ov, h2, h3, h4⟩
      go_wp2_with fail
      refine (FL.out _ (by (repeat' (first | exact Below.refl _ _ | assumption | exact And.left (by assumption) | apply bel_alloc | apply Below.drew)))).mono ?_; rintro r w4 ⟨rfl, lab4, ov, e4, h4, f4⟩
      have E4 : Hid (LabEq lab lab4 w) := Lib.hid fun i hi => (e4 i (Nat.lt_of_lt_of_le hi B3.out.size)).trans (E2.out i hi)
      have B4 := Lib.hid (B3.out.then f4 (fun i hi hdd => by
        show isE (lab i)
        rw [E2.out i hi] at hdd
        unfold isE; omega))
      have H4 := Lib.hid h4
      clear d9 hr FL e4 f4
      have hr := Below.refl w4.heap.size w4
      have d9 := h4.atS (by simp) (by simp) rfl
      dsimp only at d9
      have FV : Hid (∀ w', Below w4.heap.size w4 w' → Calls Tryz.prog 86 #[.pointer (some ⟨eb.wx, 0, none⟩)] w' fun e w'' => e = .returned (.bool false) ∧ Below w'.heap.size w' w'') := Lib.hid fun w' hb => by
        obtain ⟨a, ps, hw⟩ := (h4.later hb).wir (by simp) rfl
        exact wOver _ _ _ _ _ _ _ _ _ hw
      clear h4
      go_wp2_with fail
      refine (FV.out _ (by (repeat' (first | exact Below.refl _ _ | assumption | exact And.left (by assumption) | apply bel_alloc | apply Below.drew)))).mono ?_; rintro r w5 ⟨rfl, b5⟩
      have b5' : Below w4.heap.size w4 w5 := by first | exact b5 | exact (Below.refl w4.heap.size w4).drew.up b5
      go_wp2_with fail
      go_end0
      refine ⟨lab4, { eb with wl := lv, ov := ov }, rfl, E4.out, ?_, rfl, rfl, B4.out.up b5'⟩
      have := H4.out.later b5'
      unfold readT
      rw [if_neg HK.out]
      rw [HSZ.out] at this
      have hud : u.data.toList = E.wb.take (readK c E t) := by rw [HU.out]
      rw [hud] at this
      rw [← HU.out]
      exact this
end Go.Proofs.YtbhgmccaecmpjaaGreat
