/-
  Contracts of what the laws of package fault build: a few wraps, a plain error wrapped in them, and the reference's text of it; and that an error's text is told.
  Conditions: at most 100 wraps, names of at most 8 bytes; the table of powers of ten is laid.
-/
import Derived.Test.YtkbfhnhdlcbidaaDoorFault
import Derived.Test.YtkbfhnhdlcbidaaDoorCut
namespace Go.Proofs.YtkbfhnhdlcbidaaDoor
open Go.RowKit Go.Sort

/-- Wraps in a slice, as they lie in a world. -/
def WIn (w : World) (ao : Option Addr) (ws : List Wr) : Prop := ∀ i (h : i < ws.length), ∃ b off, ao = some ⟨b, off, none⟩ ∧ ∀ w', Below w.heap.size w w' →
  w'.cell? ⟨b, off + i * 4, none⟩ = some (.bool ws[i].at_) ∧ w'.cell? ⟨b, off + i * 4 + 1, none⟩ = some (.int .i64 ws[i].line) ∧ w'.cell? ⟨b, off + i * 4 + 2, none⟩ = some (.int .i64 ws[i].col) ∧ w'.cell? ⟨b, off + i * 4 + 3, none⟩ = some (.string ws[i].name)
theorem win_later {w w' : World} {ao : Option Addr} {ws : List Wr} (h : WIn w ao ws) (hb : Below w.heap.size w w') : WIn w' ao ws := fun i hi => by
  obtain ⟨b, off, e, hc⟩ := h i hi
  exact ⟨b, off, e, fun w2 h2 => hc w2 (hb.up h2)⟩

def wrsCells (l : List Wr) : List Value := l.flatMap wrCells
theorem wrsCells_len : ∀ l : List Wr, (wrsCells l).length = l.length * 4
  | [] => rfl
  | x :: l => by
    have := wrsCells_len l
    unfold wrsCells at *
    simp only [List.flatMap_cons, List.length_append, List.length_cons, this]
    show 4 + l.length * 4 = _
    omega
theorem wrsCells_snoc (l : List Wr) (x : Wr) : wrsCells (l ++ [x]) = wrsCells l ++ wrCells x := by simp [wrsCells]
theorem wrsCells_at : ∀ (l : List Wr) (i : Nat) (h : i < l.length) (j : Nat), j < 4 → (wrsCells l)[i * 4 + j]? = (wrCells l[i])[j]?
  | [], i, h, _, _ => absurd h (by simp)
  | x :: l, 0, _, j, hj => by
    show (wrCells x ++ wrsCells l)[0 * 4 + j]? = _
    rw [List.getElem?_append_left (by show _ < 4; omega)]
    simp
  | x :: l, i + 1, h, j, hj => by
    have := wrsCells_at l i (by simpa using h) j hj
    show (wrCells x ++ wrsCells l)[(i + 1) * 4 + j]? = _
    rw [List.getElem?_append_right (by show 4 ≤ _; omega)]
    show (wrsCells l)[(i + 1) * 4 + j - 4]? = _
    rw [show (i + 1) * 4 + j - 4 = i * 4 + j by omega, this]
    rfl
/-- Wraps in a row of the call's own. -/
def OWr (B : Nat) (w : World) (ao : Option Addr) (cap : Nat) (l : List Wr) : Prop := ORow 39 4 B w (.slice ao l.length cap) l.length (wrsCells l)
theorem owr_win {B cap : Nat} {w : World} {ao : Option Addr} {l : List Wr} (h : OWr B w ao cap l) : WIn w ao l := fun i hi => by
  have hx := wrsCells_len l
  obtain ⟨g, rfl, hg, h0⟩ := orow_cell h (i * 4) (by omega)
  obtain ⟨g1, e1, -, h1⟩ := orow_cell h (i * 4 + 1) (by omega)
  obtain ⟨g2, e2, -, h2⟩ := orow_cell h (i * 4 + 2) (by omega)
  obtain ⟨g3, e3, -, h3⟩ := orow_cell h (i * 4 + 3) (by omega)
  cases e1; cases e2; cases e3
  refine ⟨g, 0, rfl, fun w' hb => ?_⟩
  rw [Nat.zero_add]
  refine ⟨(h0 w' hb).trans ?_, (h1 w' hb).trans ?_, (h2 w' hb).trans ?_, (h3 w' hb).trans ?_⟩
  · exact wrsCells_at l i hi 0 (by omega)
  · exact wrsCells_at l i hi 1 (by omega)
  · exact wrsCells_at l i hi 2 (by omega)
  · exact wrsCells_at l i hi 3 (by omega)

theorem infoWrap : (Tryd.prog.info? 39).map (fun i => (i.zero, i.size, i.bytes)) = some (some (.agg #[.bool false, .int .i64 0, .int .i64 0, .string ⟨#[]⟩]), 4, 40) := by kernel_rfl
def cutW (W : Wr) : Wr := { W with name := cutT W.name 8 }
def ws8 (ws : List Wr) : List Wr := (ws.take 8).map cutW

set_option maxHeartbeats 1000000 in
set_option maxRecDepth 100000 in
theorem fFew (ao : Option Addr) (cap : Nat) (ws : List Wr) (w : World) (hin : WIn w ao ws) (hz : ws.length ≤ maxLen) :
    Calls Tryd.prog 11 #[.slice ao ws.length cap] w fun e w' => ∃ oo oc, e = .returned (.slice oo (ws8 ws).length oc) ∧ WIn w' oo (ws8 ws) ∧ Below w.heap.size w w' := by
  have HI := Lib.hid hin
  clear hin
  have hzl : ws.length ≤ 9223372036854775807 := Nat.le_trans hz (by decide)
  go_enter Tryd.func11, Tryd.ntmps11
  go_wp2_with fail
  have hob0 := orow_empty 39 4 w.heap.size w (Nat.le_refl _)
  have hb0 : Below w.heap.size w (w.alloc (.cells #[] 39)) := (Below.refl _ _).alloc (Nat.le_refl _) _
  generalize hB : w.heap.size = B at *
  have hBs : B ≤ w.heap.size := Nat.le_of_eq hB.symm
  have HB := Lib.hid hB
  clear hB
  go_loopw [3, 4] (fun ov iv wr => ∃ (k : Nat) (oo : Option Addr) (oc : Nat) (acc : List Wr), iv = .int .i64 k ∧ ov = .slice oo acc.length oc ∧ Hid (acc.length = k) ∧ k ≤ ws.length ∧ k ≤ 8 ∧ Hid (acc = (ws.take k).map cutW) ∧ Hid (OWr B wr oo oc acc) ∧ Below B w wr) (fun _ iv _ => ws.length - (intOf iv).toNat)
  case atStart => exact ⟨0, _, 0, [], rfl, rfl, Lib.hid rfl, Nat.zero_le _, Nat.zero_le _, Lib.hid rfl, Lib.hid hob0, hb0⟩
  case round =>
    obtain ⟨k, oo, oc, acc, rfl, rfl, hal, hkz, hk8, hacc, hoi, hb⟩ := hrel
    clear hob0 hb0
    have e0 : (0 : Int) ≤ (k : Int) := by omega
    by_cases hlt : k < ws.length ∧ k < 8
    · obtain ⟨b, off, rfl, hz1⟩ := HI.out k hlt.1
      have dz : ∀ w', Below wr.heap.size wr w' → w'.cell? ⟨b, off + k * 4, none⟩ = some (.bool ws[k].at_) ∧ w'.cell? ⟨b, off + k * 4 + 1, none⟩ = some (.int .i64 ws[k].line) ∧ w'.cell? ⟨b, off + k * 4 + 2, none⟩ = some (.int .i64 ws[k].col) ∧ w'.cell? ⟨b, off + k * 4 + 3, none⟩ = some (.string ws[k].name) := fun w' h => hz1 w' (by rw [HB.out]; exact hb.trans (h.mono (Nat.le_trans hBs hb.size)))
      have e1 : (k : Int) < (ws.length : Int) := by omega
      have e2 : (k : Int) < 8 := by omega
      have hm : acc.length ≤ 1000000 := by have := hal.out; omega
      have HA := Lib.hid (show acc ++ [cutW ws[k]] = (ws.take (k + 1)).map cutW by rw [List.take_succ_eq_append_getElem hlt.1, List.map_append]; exact congrArg (· ++ [cutW ws[k]]) hacc.out)
      clear hz1 hacc
      have hcw : cutW ws[k] = ⟨ws[k].at_, ws[k].line, ws[k].col, cutT ws[k].name 8⟩ := rfl
      rw [hcw] at HA
      clear hcw
      generalize ws[k] = V at *
      obtain ⟨va, vl, vc, vn⟩ := V
      simp only at dz HA
      have hr := Below.refl wr.heap.size wr
      go_wp2_with fail
      refine (xCut vn 8 _).mono ?_; rintro e w4 ⟨rfl, rfl⟩
      go_upto_region 7 with fail
      generalize cutT vn 8 = U at *
      have how := hoi.out
      unfold OWr at how
      obtain ⟨q, hq⟩ : ∃ q, wr.heap.size = q := ⟨_, rfl⟩
      have hrow : ∀ g, (Value.slice oo acc.length oc).ownBlock = some g → g < q := fun g hg => hq ▸ (World.ownsRow.lt how g hg).2
      have hqB : B ≤ q := by rw [← hq]; exact Nat.le_trans hBs hb.size
      generalize hwa : wr.alloc (.cells #[.bool va, .int .i64 vl, .int .i64 vc, .string U] 39) = wa
      have ka : Blk wa q 39 #[.bool va, .int .i64 vl, .int .i64 vc, .string U] := by rw [← hwa, ← hq]; exact Blk.new _ _ _
      have hba : Below B w wa := by rw [← hwa]; exact hb.alloc (Nat.le_trans hBs hb.size) _
      have howa : ORow 39 4 B wa (.slice oo acc.length oc) acc.length (wrsCells acc) := by rw [← hwa]; exact World.ownsRow.alloc how _
      rw [hq]
      clear hwa hq how hb hoi dz hr
      have dq := ka.at4
      have hr := Below.refl wa.heap.size wa
      go_wp2_with (at_builtin; refine wpList_append_elem infoWrap rfl (by decide) (by decide) Tryd.underlying22 _ rfl _ _ rfl B _ _ _ rfl (World.ownsRow.alloc howa _) wa.heap.size rfl (wrCells ⟨va, vl, vc, U⟩) rfl ?ta1 ?ta2 hm ?ta3 ?ta4)
      case ta1 =>
        intro j u hj
        exact ((Blk.new wa 39 #[.bool va, .int .i64 vl, .int .i64 vc, .string U]).cell j).trans (by rw [← hj]; simp [wrCells])
      case ta2 =>
        intro u hu
        simp [wrCells] at hu
        rcases hu with rfl | rfl | rfl | rfl <;> rfl
      case ta3 => have := hba.size; simp; omega
      case ta4 =>
        intro oo' oc' w3 g3 g4
        have hal' : (acc ++ [(⟨va, vl, vc, U⟩ : Wr)]).length = k + 1 := by rw [List.length_append, hal.out]; rfl
        have hb4 : Below B w w3 := orow_below (World.ownsRow.alloc howa _) (hba.alloc (by have := hba.size; omega) _) g4 hBs
        have HO := Lib.hid (show OWr B w3 oo' oc' (acc ++ [⟨va, vl, vc, U⟩]) by unfold OWr; rw [List.length_append, wrsCells_snoc]; exact g3)
        clear g3 g4 hba howa ka dq hr
        go_wp2_with fail
        go_roundw
        case rel => exact ⟨k + 1, oo', oc', acc ++ [⟨va, vl, vc, U⟩], by go_num, by rw [List.length_append]; rfl, Lib.hid hal', by omega, by omega, HA, HO, hb4⟩
        case measure => simp [intOf]; omega
    · have hE : (ws.take k).map cutW = ws8 ws := by
        unfold ws8
        congr 1
        by_cases hkl : k < ws.length
        · obtain rfl : k = 8 := by have := hlt; omega
          rfl
        · obtain rfl : k = ws.length := by omega
          rw [List.take_length, List.take_of_length_le hk8]
      have HF := Lib.hid (hacc.out.trans hE)
      have HOW := Lib.hid (owr_win hoi.out)
      clear hE hacc
      by_cases hkl : k < ws.length
      · have e1 : (k : Int) < (ws.length : Int) := by omega
        have e2 : ¬ (k : Int) < 8 := fun h => hlt ⟨hkl, by omega⟩
        go_wp2_with fail
        go_ret
        have h5 := HF.out
        have h6 := HOW.out
        subst h5
        exact ⟨oo, ⟨oc, rfl⟩, h6, by rw [HB.out]; exact hb⟩
      · have e1 : ¬ (k : Int) < (ws.length : Int) := by omega
        go_wp2_with fail
        go_ret
        have h5 := HF.out
        have h6 := HOW.out
        subst h5
        exact ⟨oo, ⟨oc, rfl⟩, h6, by rw [HB.out]; exact hb⟩
theorem chain_iface {w : World} {en : Int} : ∀ {ws : List Wr} {v : Value}, Chain w en ws v → ∃ t u, v = .iface t u
  | [], _, h => ⟨_, _, h⟩
  | _ :: _, _, ⟨_, _, _, .inl ⟨_, h, _⟩⟩ => ⟨_, _, h⟩
  | _ :: _, _, ⟨_, _, _, .inr ⟨_, h, _⟩⟩ => ⟨_, _, h⟩
theorem fWithin (name : ByteArray) (t : TypeId) (u : Value) (w : World) : Calls Tryd.prog 20 #[.string name, .iface t u] w fun e w' => e = .returned (.iface 46 (.pointer (some ⟨w.heap.size, 0, none⟩))) ∧ Blk w' w.heap.size 48 #[.string name, .iface t u] ∧ Below w.heap.size w w' := by
  go_enter Tryd.func20, Tryd.ntmps20
  go_wp2_with fail
  go_ret
  exact ⟨rfl, Blk.new _ _ _, (Below.refl _ _).alloc (Nat.le_refl _) _⟩
theorem fWithin_nil (name : ByteArray) (w : World) : Calls Tryd.prog 20 #[.string name, .nilIface] w fun e w' => e = .returned .nilIface ∧ w = w' := by
  go_enter Tryd.func20, Tryd.ntmps20
  go_wp2_with fail
  go_ret
  exact ⟨rfl, rfl⟩
theorem fNew (l c en : Int) (w : World) (hne : en ≠ 0) : Calls Tryd.prog 19 #[.agg #[.int .i64 l, .int .i64 c], .int .i64 en] w fun e w' =>
    ∃ p, e = .returned (.iface 43 (.pointer (some ⟨p, 0, none⟩))) ∧ Blk w' p 45 #[.int .i64 l, .int .i64 c, .iface 23 (.int .i64 en)] ∧ Below w.heap.size w w' := by
  have e0 := ne_b hne
  go_enter Tryd.func19, Tryd.ntmps19
  go_wp2_with fail
  go_ret
  exact ⟨_, rfl, by simpa using Blk.new (w.alloc (.cells #[.int .i64 l, .int .i64 c] 33)) 45 #[.int .i64 l, .int .i64 c, .iface 23 (.int .i64 en)], ((Below.refl _ _).alloc (Nat.le_refl _) _).alloc (by simp) _⟩
theorem fNew_nil (l c : Int) (w : World) : Calls Tryd.prog 19 #[.agg #[.int .i64 l, .int .i64 c], .int .i64 0] w fun e w' => e = .returned .nilIface ∧ Below w.heap.size w w' := by
  go_enter Tryd.func19, Tryd.ntmps19
  go_wp2_with fail
  go_ret
  exact ⟨rfl, (Below.refl _ _).alloc (Nat.le_refl _) _⟩
theorem drop_wr {ws : List Wr} {m : Nat} (h : m < ws.length) : ws.drop m = ws[m] :: ws.drop (m + 1) := List.drop_eq_getElem_cons h
set_option maxHeartbeats 1000000 in
set_option maxRecDepth 100000 in
theorem fWrapped (ao : Option Addr) (cap : Nat) (ws : List Wr) (en : Int) (w : World) (hin : WIn w ao ws) (hz : ws.length ≤ 100) :
    Calls Tryd.prog 14 #[.slice ao ws.length cap, .int .i64 en] w fun e w' => ∃ v, e = .returned v ∧ Chain w' en ws v ∧ Below w.heap.size w w' := by
  have HI := Lib.hid hin
  clear hin
  go_enter Tryd.func14, Tryd.ntmps14
  go_wp2_with fail
  go_loopw [5, 6] (fun ov iv wr => ∃ k : Nat, iv = .int .i64 ((k : Int) - 1) ∧ k ≤ ws.length ∧ Hid (Chain wr en (ws.drop k) ov) ∧ Below w.heap.size w wr) (fun _ iv _ => (intOf iv + 1).toNat)
  case atStart => exact ⟨ws.length, rfl, Nat.le_refl _, Lib.hid (by rw [List.drop_length]; rfl), Below.refl _ _⟩
  case round =>
    rename_i ov iv
    obtain ⟨k, rfl, hk, hch, hb⟩ := hrel
    obtain ⟨ti, ui, hov⟩ := chain_iface hch.out
    rcases k with _ | m
    · have hc := hch.out
      rw [List.drop_zero] at hc
      have HC := Lib.hid hc
      clear hch hc
      go_wp2_with fail
      go_ret
      exact ⟨_, rfl, HC.out, hb⟩
    · obtain ⟨b, off, rfl, hz1⟩ := HI.out m hk
      have dz : ∀ w', Below wr.heap.size wr w' → w'.cell? ⟨b, off + m * 4, none⟩ = some (.bool ws[m].at_) ∧ w'.cell? ⟨b, off + m * 4 + 1, none⟩ = some (.int .i64 ws[m].line) ∧ w'.cell? ⟨b, off + m * 4 + 2, none⟩ = some (.int .i64 ws[m].col) ∧ w'.cell? ⟨b, off + m * 4 + 3, none⟩ = some (.string ws[m].name) := fun w' h => hz1 w' (hb.up h)
      have hD := drop_wr hk
      have HCH := hch
      clear hz1 hch
      have em : ((m + 1 : Nat) : Int) - 1 = (m : Int) := by omega
      rw [em]
      have e0 : (0 : Int) ≤ (m : Int) := by omega
      have e1 : (m : Int) < (ws.length : Int) := by omega
      generalize ws[m] = V at *
      obtain ⟨va, vl, vc, vn⟩ := V
      simp only at dz
      have HD := Lib.hid hD
      clear hD em
      have hr := Below.refl wr.heap.size wr
      subst hov
      cases va with
      | true =>
        go_wp2_with fail
        go_roundw
        case rel =>
          refine ⟨m, by go_num, by omega, Lib.hid ?_, hb.alloc hb.size _⟩
          rw [HD.out]
          exact ⟨_, _, chain_later ((Below.refl _ _).alloc (Nat.le_refl _) _) HCH.out, .inl ⟨rfl, rfl, Blk.new _ _ _⟩⟩
        case measure => simp [intOf]
      | false =>
        go_wp2_with fail
        refine (fWithin _ _ _ _).mono ?_; rintro e w1 ⟨rfl, hk1, hb1⟩
        have hC1 := chain_later hb1 HCH.out
        have HC1 := Lib.hid hC1
        have hb2 := hb.up hb1
        clear hC1 HCH hb dz hr
        go_wp2_with fail
        go_roundw
        case rel =>
          refine ⟨m, by go_num, by omega, Lib.hid ?_, hb2⟩
          rw [HD.out]
          exact ⟨_, _, HC1.out, .inr ⟨rfl, rfl, hk1⟩⟩
        case measure => simp [intOf]
def flatW (l : List Wr) : List UInt8 := l.flatMap prefW
theorem textW_flat (en : Int) : ∀ ws : List Wr, textW ws en = flatW ws ++ plainW en
  | [] => rfl
  | W :: ws => by
    have := textW_flat en ws
    unfold flatW at *
    simp only [textW, this, List.flatMap_cons, List.append_assoc]
theorem flatW_len : ∀ ws : List Wr, (∀ W ∈ ws, WrOk W) → (flatW ws).length ≤ 60 * ws.length
  | [], _ => Nat.le_refl _
  | W :: ws, h => by
    have h1 := prefW_len (h W (by simp))
    have h2 := flatW_len ws (fun V hV => h V (by simp [hV]))
    unfold flatW at *
    simp only [List.flatMap_cons, List.length_append, List.length_cons]; omega
theorem flat_at (s : List UInt8) (l c : Int) (n : ByteArray) : bt s ++ (⟨#[108, 105, 110, 101, 32]⟩ : ByteArray) ++ bt (Lib.itoa l) ++ ⟨#[44, 32, 99, 111, 108, 117, 109, 110, 32]⟩ ++ bt (Lib.itoa c) ++ ⟨#[58, 32]⟩ = bt (s ++ prefW ⟨true, l, c, n⟩) := by
  apply ByteArray.ext
  simp [ByteArray.data_append, prefW]
theorem flat_in (s : List UInt8) (l c : Int) (n : ByteArray) : bt s ++ (⟨#[105, 110, 32]⟩ : ByteArray) ++ n ++ ⟨#[58, 32]⟩ = bt (s ++ prefW ⟨false, l, c, n⟩) := by
  apply ByteArray.ext
  simp [ByteArray.data_append, prefW]
theorem flat_end (s : List UInt8) (en : Int) : bt s ++ (⟨#[101, 114, 114, 111, 114, 32]⟩ : ByteArray) ++ bt (Lib.itoa en) = bt (s ++ plainW en) := by
  apply ByteArray.ext
  simp [ByteArray.data_append, plainW]
theorem flatW_snoc (l : List Wr) (x : Wr) : flatW (l ++ [x]) = flatW l ++ prefW x := by simp [flatW]
set_option maxHeartbeats 1000000 in
set_option maxRecDepth 100000 in
theorem fTextR (ao : Option Addr) (cap : Nat) (ws : List Wr) (en : Int) (w : World) (hin : WIn w ao ws) (hz : ws.length ≤ 100) (hg : ∀ W ∈ ws, WrOk W) (he : i64 en) :
    Calls Tryd.prog 15 #[.slice ao ws.length cap, .int .i64 en] w fun e w' => e = .returned (.string (bt (textW ws en))) ∧ Below w.heap.size w w' := by
  have HI := Lib.hid hin
  have HG := Lib.hid hg
  have HE := Lib.hid he
  clear hin hg he
  go_enter Tryd.func15, Tryd.ntmps15
  go_wp2_with fail
  go_loopw [5, 6] (fun sv iv wr => ∃ (k : Nat) (s : List UInt8), iv = .int .i64 k ∧ sv = .string (bt s) ∧ k ≤ ws.length ∧ Hid (s = flatW (ws.take k)) ∧ s.length ≤ 60 * k ∧ Below w.heap.size w wr) (fun _ iv _ => ws.length - (intOf iv).toNat)
  case atStart => exact ⟨0, [], rfl, rfl, Nat.zero_le _, Lib.hid rfl, Nat.zero_le _, Below.refl _ _⟩
  case round =>
    obtain ⟨k, s, rfl, rfl, hk, hs, hsl, hb⟩ := hrel
    have e0 : (0 : Int) ≤ (k : Int) := by omega
    by_cases hlt : k < ws.length
    · obtain ⟨b, off, rfl, hz1⟩ := HI.out k hlt
      have dz : ∀ w', Below wr.heap.size wr w' → w'.cell? ⟨b, off + k * 4, none⟩ = some (.bool ws[k].at_) ∧ w'.cell? ⟨b, off + k * 4 + 1, none⟩ = some (.int .i64 ws[k].line) ∧ w'.cell? ⟨b, off + k * 4 + 2, none⟩ = some (.int .i64 ws[k].col) ∧ w'.cell? ⟨b, off + k * 4 + 3, none⟩ = some (.string ws[k].name) := fun w' h => hz1 w' (hb.up h)
      have e1 : (k : Int) < (ws.length : Int) := by omega
      have HS := Lib.hid (show s ++ prefW ws[k] = flatW (ws.take (k + 1)) by rw [List.take_succ_eq_append_getElem hlt, flatW_snoc, ← hs.out])
      have hok := HG.out ws[k] (List.getElem_mem _)
      have hpl := prefW_len hok
      generalize ws[k] = V at *
      obtain ⟨va, vl, vc, vn⟩ := V
      obtain ⟨hl1, hl2, hl3⟩ := hok
      simp only at dz hl1 hl2 hl3
      have hr := Below.refl wr.heap.size wr
      have hu : ∀ u : Later wr.heap.size wr, Below wr.heap.size wr u.world := fun u => u.below
      clear hz1 hs
      cases va with
      | true =>
        have F1 := Lib.hid hl1
        have F2 := Lib.hid hl2
        unfold i64 at hl1 hl2
        have l1 : (Lib.itoa vl).length ≤ 21 := Lib.itoa_length_le vl hl1.1 hl1.2
        have l2 : (Lib.itoa vc).length ≤ 21 := Lib.itoa_length_le vc hl2.1 hl2.2
        have e5 := flat_at s vl vc vn
        clear hl1 hl2 hl3
        go_wp2_with fail
        refine wp_region_later wr.heap.size (by kernel_rfl) (by kernel_rfl) ?_
        repeat (go_big_quiet_step ((go_at_call 45; exact later_same (rNum _ _ (by first | exact F1.out | exact F2.out)))))
        refine wpQuiet_nil ?_
        intro w1 hb1
        go_wp2_with fail
        go_roundw
        case rel => exact ⟨k + 1, _, by go_num, rfl, by omega, HS, by rw [List.length_append]; omega, hb.up hb1⟩
        case measure => simp [intOf]; omega
      | false =>
        have e5 := flat_in s vl vc vn
        clear hl1 hl2
        go_wp2_with fail
        go_roundw
        case rel => exact ⟨k + 1, _, by go_num, rfl, by omega, HS, by rw [List.length_append]; omega, hb⟩
        case measure => simp [intOf]; omega
    · obtain rfl : k = ws.length := by omega
      have hT := textW_flat en ws
      have hs' := hs.out
      rw [List.take_length] at hs'
      rw [← hs'] at hT
      have HT := Lib.hid hT
      have e5 := flat_end s en
      have F1 := Lib.hid (fun w => rNum en w HE.out)
      have l1 : (Lib.itoa en).length ≤ 21 := by have := HE.out; unfold i64 at this; exact Lib.itoa_length_le en this.1 this.2
      clear hT hs hs'
      go_wp2_with fail
      refine (F1.out _).mono ?_; rintro e w1 ⟨rfl, rfl⟩
      go_wp2_with fail
      go_ret
      exact ⟨by rw [HT.out]; rfl, hb⟩
theorem itoa_small (n : Nat) (h : n < 10) : Lib.itoa (n : Int) = [UInt8.ofNat (48 + n)] := by rw [Lib.itoa_nonneg, dec_small h]
theorem lives_text (n : ByteArray) : bt (textW [⟨false, 0, 0, ⟨#[97]⟩⟩, ⟨true, 2, 6, n⟩] 13) = ⟨#[105, 110, 32, 97, 58, 32, 108, 105, 110, 101, 32, 50, 44, 32, 99, 111, 108, 117, 109, 110, 32, 54, 58, 32, 101, 114, 114, 111, 114, 32, 49, 51]⟩ := by
  have h2 : Lib.itoa 2 = [50] := itoa_small 2 (by omega)
  have h6 : Lib.itoa 6 = [54] := itoa_small 6 (by omega)
  have h13 : Lib.itoa 13 = [49, 51] := by
    show Lib.itoa ((13 : Nat) : Int) = _
    rw [Lib.itoa_nonneg, dec_big (by omega), dec_small (by omega)]; rfl
  simp only [textW, prefW, plainW, h2, h6, h13]
  rfl
set_option maxRecDepth 100000 in
theorem fLives (w : World) (hp : Pow w) : Calls Tryd.prog 12 #[] w fun e w' => e = .returned (.bool true) ∧ Below w.heap.size w w' := by
  have HP := Lib.hid hp
  clear hp
  go_enter Tryd.func12, Tryd.ntmps12
  go_wp2_with fail
  refine (fNew 2 6 13 _ (by omega)).mono ?_; rintro e w1 ⟨p, rfl, hk, hb⟩
  go_wp2_with fail
  refine (fWithin _ _ _ _).mono ?_; rintro e w2 ⟨rfl, hk2, hb2⟩
  have hc : Chain w2 13 [⟨false, 0, 0, ⟨#[97]⟩⟩, ⟨true, 2, 6, ⟨#[]⟩⟩] (.iface 46 (.pointer (some ⟨w1.heap.size, 0, none⟩))) :=
    ⟨_, _, chain_later hb2 ⟨_, _, rfl, .inl ⟨rfl, rfl, hk⟩⟩, .inr ⟨rfl, rfl, hk2⟩⟩
  have hb3 := hb.up hb2
  have hp2 := pow_later HP.out hb3
  have F := Lib.hid (fText (en := 13) (by unfold i64; omega) _ _ _ hc (by intro W hW; simp at hW; rcases hW with rfl | rfl <;> exact ⟨by unfold i64; simp, by unfold i64; simp, by decide⟩) (by simp) hp2)
  have e1 := lives_text ⟨#[]⟩
  rw [e1] at F
  clear hc hk hk2 hp2 e1 hb hb2
  go_wp2_with fail
  have G : Calls Tryd.prog 13 #[.iface 46 (.pointer (some ⟨w1.heap.size, 0, none⟩))] w2 fun e w' => e = .returned (.string ⟨#[105, 110, 32, 97, 58, 32, 108, 105, 110, 101, 32, 50, 44, 32, 99, 111, 108, 117, 109, 110, 32, 54, 58, 32, 101, 114, 114, 111, 114, 32, 49, 51]⟩) ∧ Below w2.heap.size w2 w' := by
    go_enter Tryd.func13, Tryd.ntmps13
    go_wp2_with fail
    refine F.out.mono ?_; rintro e w3 ⟨rfl, hb4⟩
    go_wp2_with fail
    go_ret
    exact ⟨rfl, hb4⟩
  refine G.mono ?_; rintro e w3 ⟨rfl, hb4⟩
  go_wp2_with fail
  go_ret
  exact ⟨rfl, hb3.up hb4⟩
theorem fTextC (v : Value) (w : World) {Q : Ending → World → Prop} (hQ : ∀ e w', Q e w' → ∃ u, e = .returned u) (h : Calls Tryd.prog 44 #[v] w Q) : Calls Tryd.prog 13 #[v] w Q := by
  go_enter Tryd.func13, Tryd.ntmps13
  go_wp2_with fail
  refine h.mono ?_; rintro e w3 hq
  obtain ⟨u, rfl⟩ := hQ _ _ hq
  go_wp2_with fail
  exact hq
end Go.Proofs.YtkbfhnhdlcbidaaDoor
