/-
  engine.Engine: write.
  Conditions: the blocks are known; who writes is live.
-/
import Derived.Test.YtbhgmccaecmpjaaGreatW35
import Derived.Test.YtbhgmccaecmpjaaGreatW27
namespace Go.Proofs.YtbhgmccaecmpjaaGreat
set_option linter.unusedVariables false
set_option linter.unusedSimpArgs false
open Go.RowKit

def writeK (t : DT) (n : Int) : Nat := takeT n t.sd t.ld
def writeU (t : DT) (n : Int) : ByteArray := t.tx.extract t.sd (t.sd + writeK t n)
def writeT (E : ET) (t : DT) (n tr : Int) : ET := { E with d := some { t with sd := t.sd + writeK t n, tr := tr }, out := if writeK t n = 0 then E.out else E.out ++ [⟨6, 0, writeK t n, 0, writeU t n, 0, 0, 0, 0, 0, 0, 0⟩] }
set_option maxRecDepth 100000 in
set_option maxHeartbeats 8000000 in
theorem enWrite {w : World} {lab : Nat → Nat} {eb : EB} {c : ScT} {E : ET} (h : EngR w lab eb c E) {t : DT} (hd : E.d = some t) (n : Int) (hl : E.out.length ≤ 1000000) :
    Calls Tryz.prog 55 #[.pointer (some ⟨eb.x, 0, none⟩), .pointer (some ⟨eb.se, 0, none⟩), .int .i64 n] w fun e w' => ∃ lab' eb' tr, e = .returned (.tuple #[]) ∧ LabEq lab lab' w ∧ EngR w' lab' eb' c (writeT E t n tr) ∧ eb'.x = eb.x ∧ eb'.se = eb.se ∧ Foot (fun i => isE (lab i)) w w' := by
  have hs : E.d.isSome = true := by rw [hd]; rfl
  have HH := Lib.hid h
  have hpb := (h.dia (by simp) t hd).pb
  have hsz : (writeU t n).size = writeK t n := by
    have : takeT n t.sd t.ld ≤ t.ld - t.sd := by unfold takeT; omega
    unfold writeU writeK
    rw [ByteArray.size_extract]; omega
  have HSZ := Lib.hid hsz
  have HC := Lib.hid (And.intro hd (And.intro hs hl))
  have FT : Hid (∀ w', Below w.heap.size w w' → Calls Tryz.prog 88 #[.pointer (some ⟨eb.db.x, 0, none⟩), .int .i64 n] w' fun e w'' => ∃ tr', e = .returned (.string (writeU t n)) ∧ DiaR w'' lab eb.db c { t with sd := t.sd + writeK t n, tr := tr' } ∧ Foot (fun i => isD (lab i)) w' w'') := Lib.hid fun w' hb => diTake ((h.later hb).dia (by simp) t hd) n
  obtain ⟨u, hu⟩ : ∃ u, u = writeU t n := ⟨_, rfl⟩
  rw [← hu] at FT HSZ
  have HU := Lib.hid hu
  have d9 := h.atS (by simp) (by simp) hs
  have hr := Below.refl w.heap.size w
  clear h hd hl hs hpb hsz hu
  go_enter Tryz.func55, Tryz.ntmps55
  go_wp2_with fail
  refine (FT.out _ (by (repeat' (first | exact Below.refl _ _ | assumption | exact And.left (by assumption) | apply bel_alloc | apply Below.drew)))).mono ?_; rintro r w1 ⟨tr, rfl, hd1, f1⟩
  have f1' : Foot (fun i => isD (lab i)) w w1 := by first | exact f1 | exact (Foot.later (Below.refl _ _).drew).trans f1
  have T1 := HH.out.dialed HC.out.2.1 f1' (LabEq.refl _ _) hd1 rfl
  have F1 := Lib.hid (f1'.mono (G := fun i => isE (lab i)) (fun i hi => by unfold isD at hi; unfold isE; omega))
  have TT := Lib.hid T1
  clear f1 f1' hd1 FT d9 hr T1
  by_cases hk : writeK t n = 0
  · have hu0 : u = ⟨#[]⟩ := ByteArray.ext (Array.eq_empty_of_size_eq_zero (HSZ.out.trans hk))
    have HK := Lib.hid hk
    subst hu0
    clear hk
    go_wp2_with fail
    go_end0
    refine ⟨lab, eb, tr, rfl, LabEq.refl _ _, ?_, rfl, rfl, F1.out⟩
    unfold writeT
    rw [if_pos HK.out]
    exact TT.out
  · have hu1 : u.toList.isEmpty = false := strSome (by rw [HSZ.out]; omega)
    have d9 := TT.out.atS (by simp) (by simp) rfl
    dsimp only at d9
    have hr := Below.refl w1.heap.size w1
    have FL : Hid (∀ w', Below w1.heap.size w1 w' → Calls Tryz.prog 26 #[.pointer (some ⟨eb.x, 0, none⟩), .agg #[.int .i64 6, .int .i64 0, .int .i64 (u.size : Nat), .int .i64 0, .string u, .int .i64 0, .int .i64 0, .int .i64 0, .int .i64 0, .int .i64 0, .int .i64 0, .int .i64 0]] w' fun e w'' => e = .returned (.tuple #[]) ∧ ∃ lab3 ov, LabEq lab lab3 w' ∧ EngR w'' lab3 { eb with ov := ov } c { E with d := some { t with sd := t.sd + writeK t n, tr := tr }, out := E.out ++ [⟨6, 0, (u.size : Nat), 0, u, 0, 0, 0, 0, 0, 0, 0⟩] } ∧ Foot (fun i => lab i = 1 ∨ lab i = 8) w' w'') := Lib.hid fun w' hb =>
      (enTell (TT.out.later hb) (by simp) (by simp) HC.out.2.2 6 0 (u.size : Nat) 0 u 0 0 0 0 0 0 0).mono fun e w'' ⟨lab3, ov, h1, h2, h3, h4⟩ => ⟨h1, lab3, ov, h2, h3, h4⟩
    have HK := Lib.hid hk
    clear hk
    go_wp2_with fail
    refine (FL.out _ (by (repeat' (first | exact Below.refl _ _ | assumption | exact And.left (by assumption) | apply bel_alloc | apply Below.drew)))).mono ?_; rintro r w4 ⟨rfl, lab4, ov, e4, h4, f4⟩
    have E4 : Hid (LabEq lab lab4 w) := Lib.hid fun i hi => e4 i (Nat.lt_of_lt_of_le hi F1.out.size)
    have B4 := Lib.hid (F1.out.then f4 (fun i hi hdd => by show isE (lab i); unfold isE; omega))
    have H4 := Lib.hid h4
    clear d9 hr FL e4 f4 h4
    go_wp2_with fail
    go_end0
    refine ⟨lab4, { eb with ov := ov }, tr, rfl, E4.out, ?_, rfl, rfl, B4.out⟩
    have := H4.out
    unfold writeT
    rw [if_neg HK.out]
    rw [HSZ.out] at this
    rw [← HU.out]
    exact this
end Go.Proofs.YtbhgmccaecmpjaaGreat

namespace Go.Proofs.YtbhgmccaecmpjaaGreat
set_option linter.unusedVariables false
set_option linter.unusedSimpArgs false
open Go.RowKit

set_option maxRecDepth 100000 in
set_option maxHeartbeats 8000000 in
theorem enReportN {w : World} {lab : Nat → Nat} {eb : EB} {c : ScT} {E : ET} (h : EngR w lab eb c E) (hs : E.d.isSome = false) (a b : Bool) (k : Int) :
    Calls Tryz.prog 33 #[.pointer (some ⟨eb.x, 0, none⟩), .agg #[.int .i64 0, .bool a, .bool b, .int .i64 k]] w fun e w' => e = .returned (.tuple #[]) ∧ Below w.heap.size w w' := by
  obtain ⟨q, hq⟩ : ∃ q, w.heap.size = q := ⟨_, rfl⟩
  obtain ⟨w1, hw1⟩ : ∃ w1, w1 = w.alloc (.cells #[.int .i64 0, .bool a, .bool b, .int .i64 k] 42) := ⟨_, rfl⟩
  have b1 : Below w.heap.size w w1 := by rw [hw1]; exact Below.alloc (Below.refl _ _) (Nat.le_refl _) _
  have K1 : Blk w1 q 42 #[.int .i64 0, .bool a, .bool b, .int .i64 k] := by rw [hw1, ← hq]; exact Blk.new _ _ _
  have FS := Lib.hid (enSeatN (h.later b1) hs)
  have HW1 := Lib.hid hw1
  have HQ := Lib.hid hq
  have B1 := Lib.hid b1
  clear hw1 hq b1 h hs
  go_enter Tryz.func33, Tryz.ntmps33
  go_upto_region 1 with fail
  rw [← HW1.out, HQ.out]
  have d1 := K1.at4
  have hr := Below.refl w1.heap.size w1
  go_wp2_with fail
  refine FS.out.mono ?_; rintro r w2 ⟨rfl, b2⟩
  go_wp2_with fail
  refine bodyPost_ret (results_none rfl _ _ _) rfl ?_
  exact ⟨rfl, B1.out.up b2⟩
/-- Its row of events, as a slice. -/
theorem EngX.row16 {o : List Nat} {w : World} {lab : Nat → Nat} {eb : EB} {c : ScT} {E : ET} (h : EngX o w lab eb c E) (h1 : 1 ∉ o) (h8 : 8 ∉ o) : ∃ ao cap, ∀ w', Below w.heap.size w w' → w'.cell? ⟨eb.x, 16, none⟩ = some (.slice ao E.out.length cap) := by
  obtain ⟨ao, cap, hov, _⟩ := orow_form (h.out h8)
  exact ⟨ao, cap, fun w' hb => by have := ((h.blk h1).later hb).cell 16; rw [this, ← hov]; rfl⟩
def reportT (c : ScT) (E : ET) (t : DT) : ET := if readK c E t = 0 then E else settleT c (readT c E t) { t with inb := t.inb ++ E.wb.take (readK c E t) }
set_option maxRecDepth 100000 in
set_option maxHeartbeats 8000000 in
theorem enReportR {w : World} {lab : Nat → Nat} {eb : EB} {c : ScT} {E : ET} (h : EngR w lab eb c E) {t : DT} (hd : E.d = some t) (h2 : t.at_ ≤ 2) (hn : t.now ≤ E.clock) (ho : overN t.li t.cu E.clock = 0) (hu : nextT t = nev ∨ 0 ≤ nextT t) (hS : E.wb.length ≤ 500000) (hrd : 0 ≤ E.rd ∧ E.rd ≤ 500000) (hl : E.out.length ≤ 1000000) (k : Int) :
    Calls Tryz.prog 33 #[.pointer (some ⟨eb.x, 0, none⟩), .agg #[.int .i64 0, .bool true, .bool false, .int .i64 k]] w fun e w' => ∃ lab' eb', e = .returned (.tuple #[]) ∧ LabEq lab lab' w ∧ EngR w' lab' eb' c (reportT c E t) ∧ eb'.x = eb.x ∧ Foot (fun i => isE (lab i)) w w' := by
  have hs : E.d.isSome = true := by rw [hd]; rfl
  obtain ⟨q, hq⟩ : ∃ q, w.heap.size = q := ⟨_, rfl⟩
  obtain ⟨w1, hw1⟩ : ∃ w1, w1 = w.alloc (.cells #[.int .i64 0, .bool true, .bool false, .int .i64 k] 42) := ⟨_, rfl⟩
  have b1 : Below w.heap.size w w1 := by rw [hw1]; exact Below.alloc (Below.refl _ _) (Nat.le_refl _) _
  have K1 : Blk w1 q 42 #[.int .i64 0, .bool true, .bool false, .int .i64 k] := by rw [hw1, ← hq]; exact Blk.new _ _ _
  obtain ⟨lab0, e0, n0⟩ : ∃ lab0, LabEq lab lab0 w ∧ ∀ i, w.heap.size ≤ i → lab0 i = 0 := ⟨labNew lab w 0, labNew_eq _ _ _, fun i hi => labNew_new hi⟩
  have h := h.relab e0
  have FS := Lib.hid (enSeatS (h.later b1) hs)
  have E0 := Lib.hid e0
  have hq0 : ¬ isE (lab0 q) := by rw [n0 q (by omega)]; unfold isE; omega
  have HQ0 := Lib.hid hq0
  have HW1 := Lib.hid hw1
  have HQ := Lib.hid hq
  have B1 := Lib.hid b1
  have H1 := Lib.hid (h.later b1)
  have HH := Lib.hid h
  have HC := Lib.hid (And.intro hd (And.intro h2 (And.intro hn (And.intro ho (And.intro hu (And.intro hS (And.intro hrd hl)))))))
  clear hw1 hq b1 h hs e0 n0 hq0 hd h2 hn ho hu hS hrd hl
  go_enter Tryz.func33, Tryz.ntmps33
  go_upto_region 1 with fail
  rw [← HW1.out, HQ.out]
  have d1 := K1.at4
  have hr := Below.refl w1.heap.size w1
  go_wp2_with fail
  refine FS.out.mono ?_; rintro r w2 ⟨rfl, b2⟩
  have HH2 := Lib.hid (H1.out.later b2)
  have K2 := K1.later b2
  have B2 := Lib.hid (B1.out.up b2)
  clear d1 hr FS b2 K1
  obtain ⟨ao, cap, d16⟩ := HH2.out.row16 (by simp) (by simp)
  obtain ⟨N0, hN0⟩ : ∃ N0, N0 = E.out.length := ⟨_, rfl⟩
  rw [← hN0] at d16
  have HN0 := Lib.hid hN0
  clear hN0
  have d1 := K2.at4
  have hr := Below.refl w2.heap.size w2
  have FR : Hid (∀ w', Below w2.heap.size w2 w' → Calls Tryz.prog 54 #[.pointer (some ⟨eb.x, 0, none⟩), .pointer (some ⟨eb.se, 0, none⟩)] w' fun e w'' => e = .returned (.tuple #[]) ∧ ∃ lab' eb', LabEq lab0 lab' w' ∧ EngR w'' lab' eb' c (readT c E t) ∧ eb'.x = eb.x ∧ eb'.se = eb.se ∧ Foot (fun i => isE (lab0 i)) w' w'') := Lib.hid fun w' hb =>
    (enRead (HH2.out.later hb) HC.out.1 HC.out.2.2.2.2.2.1 HC.out.2.2.2.2.2.2.1 HC.out.2.2.2.2.2.2.2).mono fun e w'' ⟨lab', eb', h1, h2, h3, h4, h5, h6⟩ => ⟨h1, lab', eb', h2, h3, h4, h5, h6⟩
  go_wp2_with fail
  refine (FR.out _ (by (repeat' (first | exact Below.refl _ _ | assumption | exact And.left (by assumption) | apply bel_alloc | apply Below.drew)))).mono ?_; rintro r w3 ⟨rfl, lab3, eb3, e3, h3, hx3, hse3, f3⟩
  have f3' : Foot (fun i => isE (lab0 i)) w2 w3 := by first | exact f3 | exact (Foot.later (Below.refl _ _).drew).trans f3
  have e3' : LabEq lab0 lab3 w2 := e3
  have K3 := K2.foot f3' HQ0.out
  have F3 : Hid (Foot (fun i => isE (lab i)) w w3) := Lib.hid ((Foot.later B2.out).then f3' (fun i hi hf => by rw [E0.out i hi] at hf; exact hf))
  have E3 : Hid (LabEq lab lab3 w) := Lib.hid fun i hi => (e3' i (Nat.lt_of_lt_of_le hi B2.out.size)).trans (E0.out i hi)
  have H3 := Lib.hid h3
  obtain ⟨ao1, cap1, d16'⟩ := h3.row16 (by simp) (by simp)
  obtain ⟨N1, hN1⟩ : ∃ N1, N1 = (readT c E t).out.length := ⟨_, rfl⟩
  rw [← hN1] at d16'
  rw [hx3] at d16'
  clear d1 d16 hr e3 e3' f3 f3' h3 FR K2
  have d1 := K3.at4
  have hr := Below.refl w3.heap.size w3
  by_cases hk : readK c E t = 0
  · have hn : N1 = N0 := by rw [hN1, HN0.out]; unfold readT; simp only; rw [if_pos hk]
    subst hn
    have HK := Lib.hid hk
    clear hk hN1
    go_wp2_with fail
    go_end0
    refine ⟨lab3, eb3, rfl, E3.out, ?_, hx3, F3.out⟩
    unfold reportT
    rw [if_pos HK.out]
    have := H3.out
    rwa [readT_no HC.out.1 HK.out] at this
  · have hn : N1 = N0 + 1 := by rw [hN1, HN0.out]; unfold readT; simp only; rw [if_neg hk]; simp
    have hn' : (N0 : Int) < (N1 : Int) := by omega
    have HK := Lib.hid hk
    clear hk hN1 hn
    have FZ : Hid (∀ w', Below w3.heap.size w3 w' → Calls Tryz.prog 50 #[.pointer (some ⟨eb.x, 0, none⟩), .int .i64 0] w' fun e w'' => e = .returned (.tuple #[]) ∧ ∃ lab' eb', LabEq lab3 lab' w' ∧ EngR w'' lab' eb' c (settleT c (readT c E t) { t with inb := t.inb ++ E.wb.take (readK c E t) }) ∧ eb'.x = eb.x ∧ Foot (fun i => isE (lab3 i)) w' w'') := Lib.hid fun w' hb => by
      have := enSettle (H3.out.later hb) (t := { t with inb := t.inb ++ E.wb.take (readK c E t) }) rfl HC.out.2.1 HC.out.2.2.1 HC.out.2.2.2.1 HC.out.2.2.2.2.1
      rw [hx3] at this
      exact this.mono fun e w'' ⟨lab', lv, h1, h2, h3, h4⟩ => ⟨h1, lab', _, h2, h3, rfl, h4⟩
    go_wp2_with fail
    refine (FZ.out _ (by (repeat' (first | exact Below.refl _ _ | assumption | exact And.left (by assumption) | apply bel_alloc | apply Below.drew)))).mono ?_; rintro r w4 ⟨rfl, lab4, eb4, e4, h4, hx4, f4⟩
    have f4' : Foot (fun i => isE (lab3 i)) w3 w4 := by first | exact f4 | exact (Foot.later (Below.refl _ _).drew).trans f4
    have e4' : LabEq lab3 lab4 w3 := e4
    have F4 := Lib.hid (F3.out.then f4' (fun i hi hf => by rw [E3.out i hi] at hf; exact hf))
    have E4 : Hid (LabEq lab lab4 w) := Lib.hid fun i hi => (e4' i (Nat.lt_of_lt_of_le hi F3.out.size)).trans (E3.out i hi)
    have H4 := Lib.hid h4
    clear e4 e4' f4 f4' h4 d1 hr d16'
    go_wp2_with fail
    go_end0
    refine ⟨lab4, eb4, rfl, E4.out, ?_, hx4, F4.out⟩
    unfold reportT
    rw [if_neg HK.out]
    exact H4.out
end Go.Proofs.YtbhgmccaecmpjaaGreat

namespace Go.Proofs.YtbhgmccaecmpjaaGreat
set_option linter.unusedVariables false
set_option linter.unusedSimpArgs false
open Go.RowKit

def reportW (c : ScT) (E : ET) (t : DT) (k tr : Int) : ET := settleT c (writeT (readT c E t) { t with inb := t.inb ++ E.wb.take (readK c E t) } k tr) { t with inb := t.inb ++ E.wb.take (readK c E t), sd := t.sd + writeK t k, tr := tr }
set_option maxRecDepth 100000 in
set_option maxHeartbeats 8000000 in
theorem enReportW {w : World} {lab : Nat → Nat} {eb : EB} {c : ScT} {E : ET} (h : EngR w lab eb c E) {t : DT} (hd : E.d = some t) (h2 : t.at_ ≤ 2) (hn : t.now ≤ E.clock) (ho : overN t.li t.cu E.clock = 0) (hu : nextT t = nev ∨ 0 ≤ nextT t) (hS : E.wb.length ≤ 500000) (hrd : 0 ≤ E.rd ∧ E.rd ≤ 500000) (hl : E.out.length ≤ 900000) (k : Int) (hk : readK c E t ≠ 0) :
    Calls Tryz.prog 33 #[.pointer (some ⟨eb.x, 0, none⟩), .agg #[.int .i64 0, .bool true, .bool true, .int .i64 k]] w fun e w' => ∃ lab' eb' tr, e = .returned (.tuple #[]) ∧ LabEq lab lab' w ∧ EngR w' lab' eb' c (reportW c E t k tr) ∧ eb'.x = eb.x ∧ Foot (fun i => isE (lab i)) w w' := by
  have hs : E.d.isSome = true := by rw [hd]; rfl
  obtain ⟨q, hq⟩ : ∃ q, w.heap.size = q := ⟨_, rfl⟩
  obtain ⟨w1, hw1⟩ : ∃ w1, w1 = w.alloc (.cells #[.int .i64 0, .bool true, .bool true, .int .i64 k] 42) := ⟨_, rfl⟩
  have b1 : Below w.heap.size w w1 := by rw [hw1]; exact Below.alloc (Below.refl _ _) (Nat.le_refl _) _
  have K1 : Blk w1 q 42 #[.int .i64 0, .bool true, .bool true, .int .i64 k] := by rw [hw1, ← hq]; exact Blk.new _ _ _
  obtain ⟨lab0, e0, n0⟩ : ∃ lab0, LabEq lab lab0 w ∧ ∀ i, w.heap.size ≤ i → lab0 i = 0 := ⟨labNew lab w 0, labNew_eq _ _ _, fun i hi => labNew_new hi⟩
  have h := h.relab e0
  have FS := Lib.hid (enSeatS (h.later b1) hs)
  have E0 := Lib.hid e0
  have hq0 : ¬ isE (lab0 q) := by rw [n0 q (by omega)]; unfold isE; omega
  have HQ0 := Lib.hid hq0
  have HW1 := Lib.hid hw1
  have HQ := Lib.hid hq
  have B1 := Lib.hid b1
  have H1 := Lib.hid (h.later b1)
  have HC := Lib.hid (And.intro hd (And.intro h2 (And.intro hn (And.intro ho (And.intro hu (And.intro hS (And.intro hrd (And.intro hl hk))))))))
  clear hw1 hq b1 h hs e0 n0 hq0 hd h2 hn ho hu hS hrd hl hk
  go_enter Tryz.func33, Tryz.ntmps33
  go_upto_region 1 with fail
  rw [← HW1.out, HQ.out]
  have d1 := K1.at4
  have hr := Below.refl w1.heap.size w1
  go_wp2_with fail
  refine FS.out.mono ?_; rintro r w2 ⟨rfl, b2⟩
  have HH2 := Lib.hid (H1.out.later b2)
  have K2 := K1.later b2
  have B2 := Lib.hid (B1.out.up b2)
  clear d1 hr FS b2 K1
  obtain ⟨ao, cap, d16⟩ := HH2.out.row16 (by simp) (by simp)
  obtain ⟨N0, hN0⟩ : ∃ N0, N0 = E.out.length := ⟨_, rfl⟩
  rw [← hN0] at d16
  have HN0 := Lib.hid hN0
  clear hN0
  have d1 := K2.at4
  have hr := Below.refl w2.heap.size w2
  have FR : Hid (∀ w', Below w2.heap.size w2 w' → Calls Tryz.prog 54 #[.pointer (some ⟨eb.x, 0, none⟩), .pointer (some ⟨eb.se, 0, none⟩)] w' fun e w'' => e = .returned (.tuple #[]) ∧ ∃ lab' eb', LabEq lab0 lab' w' ∧ EngR w'' lab' eb' c (readT c E t) ∧ eb'.x = eb.x ∧ eb'.se = eb.se ∧ Foot (fun i => isE (lab0 i)) w' w'') := Lib.hid fun w' hb =>
    (enRead (HH2.out.later hb) HC.out.1 HC.out.2.2.2.2.2.1 HC.out.2.2.2.2.2.2.1 (by have := HC.out.2.2.2.2.2.2.2.1; omega)).mono fun e w'' ⟨lab', eb', h1, h2, h3, h4, h5, h6⟩ => ⟨h1, lab', eb', h2, h3, h4, h5, h6⟩
  go_wp2_with fail
  refine (FR.out _ (by (repeat' (first | exact Below.refl _ _ | assumption | exact And.left (by assumption) | apply bel_alloc | apply Below.drew)))).mono ?_; rintro r w3 ⟨rfl, lab3, eb3, e3, h3, hx3, hse3, f3⟩
  have f3' : Foot (fun i => isE (lab0 i)) w2 w3 := by first | exact f3 | exact (Foot.later (Below.refl _ _).drew).trans f3
  have e3' : LabEq lab0 lab3 w2 := e3
  have K3 := K2.foot f3' HQ0.out
  have F3 : Hid (Foot (fun i => isE (lab i)) w w3) := Lib.hid ((Foot.later B2.out).then f3' (fun i hi hf => by rw [E0.out i hi] at hf; exact hf))
  have E3 : Hid (LabEq lab lab3 w) := Lib.hid fun i hi => (e3' i (Nat.lt_of_lt_of_le hi B2.out.size)).trans (E0.out i hi)
  have H3 := Lib.hid h3
  clear d1 d16 hr e3 e3' f3 f3' h3 FR K2
  have d1 := K3.at4
  have hr := Below.refl w3.heap.size w3
  have FW : Hid (∀ w', Below w3.heap.size w3 w' → Calls Tryz.prog 55 #[.pointer (some ⟨eb.x, 0, none⟩), .pointer (some ⟨eb.se, 0, none⟩), .int .i64 k] w' fun e w'' => e = .returned (.tuple #[]) ∧ ∃ lab' eb' tr, LabEq lab3 lab' w' ∧ EngR w'' lab' eb' c (writeT (readT c E t) { t with inb := t.inb ++ E.wb.take (readK c E t) } k tr) ∧ eb'.x = eb.x ∧ Foot (fun i => isE (lab3 i)) w' w'') := Lib.hid fun w' hb => by
    have hlen : (readT c E t).out.length ≤ 1000000 := by
      have := HC.out.2.2.2.2.2.2.2.1
      unfold readT; simp only; split <;> simp <;> omega
    have := enWrite (H3.out.later hb) (t := { t with inb := t.inb ++ E.wb.take (readK c E t) }) rfl k hlen
    rw [hx3, hse3] at this
    exact this.mono fun e w'' ⟨lab', eb', tr, h1, h2, h3, h4, h5, h6⟩ => ⟨h1, lab', eb', tr, h2, h3, h4, h6⟩
  go_wp2_with fail
  refine (FW.out _ (by (repeat' (first | exact Below.refl _ _ | assumption | exact And.left (by assumption) | apply bel_alloc | apply Below.drew)))).mono ?_; rintro r w4 ⟨rfl, lab4, eb4, tr, e4, h4, hx4, f4⟩
  have f4' : Foot (fun i => isE (lab3 i)) w3 w4 := by first | exact f4 | exact (Foot.later (Below.refl _ _).drew).trans f4
  have e4' : LabEq lab3 lab4 w3 := e4
  have F4 := Lib.hid (F3.out.then f4' (fun i hi hf => by rw [E3.out i hi] at hf; exact hf))
  have E4 : Hid (LabEq lab lab4 w) := Lib.hid fun i hi => (e4' i (Nat.lt_of_lt_of_le hi F3.out.size)).trans (E3.out i hi)
  have H4 := Lib.hid h4
  obtain ⟨ao1, cap1, d16'⟩ := h4.row16 (by simp) (by simp)
  obtain ⟨N1, hN1⟩ : ∃ N1, N1 = (writeT (readT c E t) { t with inb := t.inb ++ E.wb.take (readK c E t) } k tr).out.length := ⟨_, rfl⟩
  rw [← hN1] at d16'
  rw [hx4] at d16'
  have hn' : (N0 : Int) < (N1 : Int) := by
    have hk := HC.out.2.2.2.2.2.2.2.2
    have h1 : (readT c E t).out.length = E.out.length + 1 := by unfold readT; simp only; rw [if_neg hk]; simp
    have h2 : (readT c E t).out.length ≤ N1 := by rw [hN1]; unfold writeT; simp only; split <;> simp
    have := HN0.out
    omega
  clear d1 hr e4 e4' f4 f4' h4 FW K3 hN1
  have hr := Below.refl w4.heap.size w4
  have FZ : Hid (∀ w', Below w4.heap.size w4 w' → Calls Tryz.prog 50 #[.pointer (some ⟨eb.x, 0, none⟩), .int .i64 0] w' fun e w'' => e = .returned (.tuple #[]) ∧ ∃ lab' eb', LabEq lab4 lab' w' ∧ EngR w'' lab' eb' c (reportW c E t k tr) ∧ eb'.x = eb.x ∧ Foot (fun i => isE (lab4 i)) w' w'') := Lib.hid fun w' hb => by
    have := enSettle (H4.out.later hb) (t := { t with inb := t.inb ++ E.wb.take (readK c E t), sd := t.sd + writeK t k, tr := tr }) rfl HC.out.2.1 HC.out.2.2.1 HC.out.2.2.2.1 HC.out.2.2.2.2.1
    rw [hx4] at this
    exact this.mono fun e w'' ⟨lab', lv, h1, h2, h3, h4⟩ => ⟨h1, lab', _, h2, h3, rfl, h4⟩
  go_wp2_with fail
  refine (FZ.out _ (by (repeat' (first | exact Below.refl _ _ | assumption | exact And.left (by assumption) | apply bel_alloc | apply Below.drew)))).mono ?_; rintro r w5 ⟨rfl, lab5, eb5, e5, h5, hx5, f5⟩
  have f5' : Foot (fun i => isE (lab4 i)) w4 w5 := by first | exact f5 | exact (Foot.later (Below.refl _ _).drew).trans f5
  have e5' : LabEq lab4 lab5 w4 := e5
  have F5 := Lib.hid (F4.out.then f5' (fun i hi hf => by rw [E4.out i hi] at hf; exact hf))
  have E5 : Hid (LabEq lab lab5 w) := Lib.hid fun i hi => (e5' i (Nat.lt_of_lt_of_le hi F4.out.size)).trans (E4.out i hi)
  have H5 := Lib.hid h5
  clear e5 e5' f5 f5' h5 hr d16' hn'
  go_wp2_with fail
  go_end0
  exact ⟨lab5, eb5, tr, rfl, E5.out, H5.out, hx5, F5.out⟩
end Go.Proofs.YtbhgmccaecmpjaaGreat

namespace Go.Proofs.YtbhgmccaecmpjaaGreat
set_option linter.unusedVariables false
set_option linter.unusedSimpArgs false
open Go.RowKit

section
variable {P : Program} {ops : Array Oper} {Q : Exit → Act → World → Prop} {md : Region.Mode} {S : World → Prop} {Z : Nat → Bool} {R : List Nat} {K : Act → World → Prop}
theorem wpAnyZ_pure {i : Nat} {oi : Oper} {v : Value} (hi : ops[i]? = some oi) (hsel : ∀ (j : Nat) (o : Oper) cs b, ops[j]? = some o → o.op ≠ .select cs b)
    (hQ : ∀ c a w, Q (.panic c) (a.put oi.dst v) w → Q (.panic c) a w) :
    ∀ (fuel : Nat) (listed : Array Bool) (a : Act) (w : World),
      (∀ j oj, ops[j]? = some oj → j ≠ i → listed.getD j true = false → (∀ e ∈ oj.after, Region.binds md e = true → e.on ≠ i) → oi.apart ops oj = true) →
      i ∈ Region.ready md ops listed → YieldsIf P ops (fun _ => True) oi v a →
      wpAnyZ P md ops Q S Z fuel (listed.setIfInBounds i true) (a.put oi.dst v) w → wpAnyZ P md ops Q S Z (fuel + 1) listed a w := by
  intro fuel
  induction fuel with
  | zero =>
    intro listed a w _ hr hy H
    refine ⟨fun h => (by rw [h] at hr; cases hr), fun j hj => ?_⟩
    by_cases hji : j = i
    · subst hji; exact hy.wpOp hi trivial ⟨.inr (fun h => h), H⟩
    · have := ready_mono hj hji
      rw [H.1] at this
      cases this
  | succ fuel ih =>
    intro listed a w hfree hr hy H
    refine ⟨fun h => (by rw [h] at hr; cases hr), fun j hj => ?_⟩
    by_cases hji : j = i
    · subst hji; exact hy.wpOp hi trivial ⟨.inr (fun h => h), H⟩
    · have h1 := H.2 j (ready_mono hj hji)
      obtain ⟨hjun, oj, hoj, hall⟩ := mem_ready.1 hj
      have hiun : listed.getD i false = true → False := fun h1 => by
        have h0 := (mem_ready.1 hr).1
        rcases Nat.lt_or_ge i listed.size with h' | h'
        · simp [h'] at h0 h1; rw [h0] at h1; cases h1
        · simp [Array.getElem?_eq_none h'] at h1
      have hnot : ∀ e ∈ oj.after, Region.binds md e = true → e.on ≠ i := fun e he hb heq => hiun (by have h1 := hall e he hb; rwa [heq] at h1)
      have h2 := wpOp_putIf hoj (hfree j oj hoj hji hjun hnot) (fun cs b => hsel i oi cs b hi) (fun cs b => hsel j oj cs b hoj) hQ hy h1
      have hfree' : ∀ k ok, ops[k]? = some ok → k ≠ i → (listed.setIfInBounds j true).getD k true = false →
          (∀ e ∈ ok.after, Region.binds md e = true → e.on ≠ i) → oi.apart ops ok = true := fun k ok hk hki hun hno => by
        refine hfree k ok hk hki ?_ hno
        by_cases hjk : j = k
        · subst hjk; exact hjun
        · rw [getD_set_ne true hjk] at hun; exact hun
      refine wpOp_mono (fun a' w' h3 => ?_) h2
      refine ⟨h3.2.1, ih (listed.setIfInBounds j true) a' w' hfree' (ready_mono hr (Ne.symm hji)) h3.1 ?_⟩
      rw [Array.setIfInBounds_comm _ _ hji]
      exact h3.2.2
def pureB (md : Region.Mode) (ops : Array Oper) : List Nat → Array Bool → Bool
  | [], _ => true
  | k :: r, listed => (Region.ready md ops listed).contains k && Region.free md ops listed k && pureB md ops r (listed.setIfInBounds k true)
theorem wpAnyZ_pures0 {n : Nat} (hs : Region.noSelect ops = true) (hQ : ∀ c a t v w, Q (.panic c) (Act.put a t v) w → Q (.panic c) a w) :
    ∀ (r : List Nat) (l : List Oper) (listed : Array Bool) (a : Act) (w : World), l.map some = r.map (fun k => ops[k]?) → pureB md ops r listed = true → wpTake P ops (fun _ => True) (fun a' => wpAnyZ P md ops Q S Z n (markAll listed r) a' w) l a →
      wpAnyZ P md ops Q S Z (r.length + n) listed a w
  | [], l, listed, a, w, hl, hB, h => by
    obtain rfl : l = [] := by simpa using hl
    rw [List.length_nil, Nat.zero_add]
    exact h
  | k :: r, [], _, _, _, hl, _, _ => by simp at hl
  | k :: r, o :: l, listed, a, w, hl, hB, h => by
    simp only [List.map_cons, List.cons.injEq] at hl
    obtain ⟨h0, hl'⟩ := hl
    have h0 := h0.symm
    simp only [pureB, Bool.and_eq_true] at hB
    obtain ⟨⟨hr, hf⟩, hB'⟩ := hB
    rw [List.length_cons, Nat.succ_add]
    obtain ⟨v, hy, h⟩ := h
    have hr' : k ∈ Region.ready md ops listed := by simpa using hr
    exact wpAnyZ_pure h0 (Region.noSelect_spec hs) (fun c a w => hQ c a o.dst v w) _ listed a w (Region.free_spec h0 hf) hr' hy (wpAnyZ_pures0 hs hQ r l _ _ w hl' hB' h)
/-- What reads no memory comes now, then what is left. -/
theorem wpAnyZ_pures {m n : Nat} {l : List Oper} {listed : Array Bool} {a : Act} {w : World} (r : List Nat) (hs : Region.noSelect l.toArray = true) (hm : m = r.length + n) (hall : r.all (fun k => decide (k < l.length)) = true) (hB : pureB md l.toArray r listed = true)
    (h : wpTake P l.toArray (fun _ => True) (fun a' => wpAnyZ P md l.toArray (NoPanic Q) S Z n (markAll listed r) a' w) (pickL r l) a) : wpAnyZ P md l.toArray (NoPanic Q) S Z m listed a w := by
  subst hm
  exact wpAnyZ_pures0 hs (fun _ _ _ _ _ h => h) r _ listed a w (pickL_map hall) hB h
end
end Go.Proofs.YtbhgmccaecmpjaaGreat
