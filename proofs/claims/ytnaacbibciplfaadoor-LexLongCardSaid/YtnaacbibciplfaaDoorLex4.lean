/-
  Contracts of package lex and of its reference: words joined; which lines say nothing; a text's lines.
  Conditions: a text of at most 100000 bytes; words of so many bytes together.
-/
import Derived.Test.YtnaacbibciplfaaDoorLex3
namespace Go.Proofs.YtnaacbibciplfaaDoor
open Go.RowKit

theorem infoStrR : (Tryd.prog.info? 9).map (fun i => (i.zero, i.size, i.bytes)) = some (some (.string ⟨#[]⟩), 1, 16) := by kernel_rfl

/-! Words, read out of a row. -/
theorem ow_at {eT B cap : Nat} {w : World} {ao : Option Addr} {l : List Wd} (h : OW eT B w ao cap l) (i : Nat) (hi : i < l.length) :
    ∃ g, ao = some ⟨g, 0, none⟩ ∧ g < w.heap.size ∧ ∀ w', Below w.heap.size w w' → w'.cell? ⟨g, i * 3, none⟩ = some (.string (bt l[i].text)) ∧ w'.cell? ⟨g, i * 3 + 1, none⟩ = some (.bool l[i].quoted) ∧ w'.cell? ⟨g, i * 3 + 2, none⟩ = some (.int .i64 (l[i].place : Nat)) := by
  have hl := wsCells_len l
  obtain ⟨g, hg, hlt, h0⟩ := orow_cell h (i * 3) (by omega)
  obtain ⟨g1, hg1, _, h1⟩ := orow_cell h (i * 3 + 1) (by omega)
  obtain ⟨g2, hg2, _, h2⟩ := orow_cell h (i * 3 + 2) (by omega)
  rw [hg] at hg1 hg2
  cases hg1
  cases hg2
  exact ⟨g, hg, hlt, fun w' hb => ⟨(h0 w' hb).trans (wsCells_at l i hi 0 (by omega)), (h1 w' hb).trans (wsCells_at l i hi 1 (by omega)), (h2 w' hb).trans (wsCells_at l i hi 2 (by omega))⟩⟩

/-! Texts in a row of the call's own. -/
def scells (l : List (List UInt8)) : List Value := l.map fun x => .string (bt x)
def OS (B : Nat) (w : World) (ao : Option Addr) (cap : Nat) (l : List (List UInt8)) : Prop := ORow 9 1 B w (.slice ao l.length cap) l.length (scells l)
theorem os_later {B cap : Nat} {w w' : World} {ao : Option Addr} {l : List (List UInt8)} (h : OS B w ao cap l) (hb : Below w.heap.size w w') : OS B w' ao cap l := orow_later h hb
theorem os_at {B cap : Nat} {w : World} {ao : Option Addr} {l : List (List UInt8)} (h : OS B w ao cap l) (i : Nat) (hi : i < l.length) :
    ∃ g, ao = some ⟨g, 0, none⟩ ∧ g < w.heap.size ∧ ∀ w', Below w.heap.size w w' → w'.cell? ⟨g, i, none⟩ = some (.string (bt l[i])) := by
  obtain ⟨g, hg, hlt, h0⟩ := orow_cell h i (by simpa [scells] using hi)
  refine ⟨g, hg, hlt, fun w' hb => (h0 w' hb).trans ?_⟩
  unfold scells
  rw [List.getElem?_map, List.getElem?_eq_getElem hi]
  rfl

theorem joinT_eq : ∀ l : List Wd, joinT l = Lib.join (l.map wordB) [32]
  | [] => rfl
  | [x] => by rw [List.map_cons, List.map_nil, Lib.join_one]; rfl
  | x :: y :: l => by
    have := joinT_eq (y :: l)
    show wordB x ++ 32 :: joinT (y :: l) = _
    rw [this]
    simp [Lib.join, List.intercalate]

theorem joinT_word {l : List Wd} {x : Wd} (h : x ∈ l) : (wordB x).length ≤ (joinT l).length := by
  induction l with
  | nil => cases h
  | cons y l ih =>
    cases l with
    | nil =>
      simp at h
      subst h
      exact Nat.le_refl _
    | cons z l =>
      show _ ≤ (wordB y ++ 32 :: joinT (z :: l)).length
      rcases List.mem_cons.1 h with rfl | h
      · rw [List.length_append]; omega
      · have := ih h
        rw [List.length_append, List.length_cons]; omega
theorem text_le (x : Wd) : x.text.length ≤ (wordB x).length := by
  unfold wordB
  split
  · have : ∀ l : List UInt8, l.length ≤ (l.flatMap sgn).length := by
      intro l
      induction l with
      | nil => exact Nat.le_refl _
      | cons c l ih =>
        have h : 1 ≤ (sgn c).length := by unfold sgn; repeat' split
                                          all_goals simp
        simp only [List.flatMap_cons, List.length_append, List.length_cons]
        omega
    have := this x.text
    simp only [quoteT, List.length_cons, List.length_append, List.length_nil]
    omega
  · exact Nat.le_refl _

set_option maxHeartbeats 4000000 in
set_option maxRecDepth 100000 in
theorem xJoin (l : List Wd) (ao : Option Addr) (cap B : Nat) (w : World) (h : OW 29 B w ao cap l) (hl : l.length ≤ 1000) (hj : (joinT l).length ≤ 100000) :
    Calls Tryd.prog 15 #[.slice ao l.length cap] w fun e w' => e = .returned (.string (bt (joinT l))) ∧ Below w.heap.size w w' := by
  have hlz : l.length ≤ 9223372036854775807 := by omega
  have HAT := Lib.hid (ow_at h)
  have HJ := Lib.hid hj
  clear h hj
  go_enter Tryd.func15, Tryd.ntmps15
  go_wp2_with fail
  generalize hC : w.heap.size = C0 at *
  have hCs : C0 ≤ w.heap.size := Nat.le_of_eq hC.symm
  have HC := Lib.hid hC
  clear hC
  go_loopw [3, 8] (fun ov iv wr => ∃ (k : Nat) (bo : Option Addr) (bcap : Nat), iv = .int .i64 k ∧ k ≤ l.length ∧ ov = .slice bo k bcap ∧ Hid (OS C0 wr bo bcap ((l.map wordB).take k)) ∧ Below C0 w wr) (fun _ iv _ => l.length - (intOf iv).toNat)
  case atStart => exact ⟨0, none, 0, rfl, Nat.zero_le _, rfl, Lib.hid (World.ownsRow_nil _ _ _ _), Below.refl _ _⟩
  case round =>
    obtain ⟨k, bo, bcap, rfl, hk, rfl, hos, hb⟩ := hrel
    have e0 : (0 : Int) ≤ (k : Int) := by omega
    by_cases hlt : k < l.length
    · have e1 : (k : Int) < (l.length : Int) := by omega
      obtain ⟨g, rfl, hg, hc⟩ := HAT.out k hlt
      have hgC : g < C0 := hg
      obtain ⟨c0, c1, c2⟩ := hc w (Below.refl _ _)
      have d0 : ∀ w', Below C0 w w' → w'.cell? ⟨g, k * 3, none⟩ = some (.string (bt l[k].text)) ∧ w'.cell? ⟨g, k * 3 + 1, none⟩ = some (.bool l[k].quoted) ∧ w'.cell? ⟨g, k * 3 + 2, none⟩ = some (.int .i64 (l[k].place : Nat)) :=
        fun w' h => ⟨(h.cell (p := ⟨g, k * 3, none⟩) hgC).trans c0, (h.cell (p := ⟨g, k * 3 + 1, none⟩) hgC).trans c1, (h.cell (p := ⟨g, k * 3 + 2, none⟩) hgC).trans c2⟩
      have htl : ((l.map wordB).take k).length = k := by rw [List.length_take, List.length_map]; omega
      have hsn : (l.map wordB).take (k + 1) = (l.map wordB).take k ++ [wordB l[k]] := by
        rw [List.take_succ_eq_append_getElem (by simpa using hlt), List.getElem_map]
      have hwl := joinT_word (List.getElem_mem hlt)
      have htx := text_le l[k]
      obtain ⟨x, hx⟩ : ∃ x, x = l[k] := ⟨_, rfl⟩
      rw [← hx] at d0 hsn hwl htx
      obtain ⟨tx, qd, pl⟩ := x
      simp only at d0 htx
      have HSN := Lib.hid hsn
      have HWL := Lib.hid hwl
      have hos' : ORow 9 1 C0 wr (.slice bo k bcap) k (scells ((l.map wordB).take k)) := by
        have := hos.out
        unfold OS at this
        rwa [htl] at this
      clear hsn hwl hx c0 c1 c2 hc hos
      cases qd with
      | true =>
        have hq := fun w => qQuote (bt tx) w (by show tx.length ≤ _; have := HWL.out; have := HJ.out; omega)
        have HQ := Lib.hid (show ∀ w, Calls Tryd.prog 23 #[.string (bt tx)] w fun e w' => e = .returned (.string (bt (wordB ⟨tx, true, pl⟩))) ∧ Below w.heap.size w w' from hq)
        clear hq
        generalize wordB ⟨tx, true, pl⟩ = wb at *
        generalize bt tx = tx' at *
        go_wp2_with fail
        refine (HQ.out _).mono ?_; rintro e w1 ⟨rfl, hb1⟩
        have hb2 : Below C0 w w1 := (hb.alloc (by have := hb.size; omega) _).up hb1 hCs
        have hos2 := orow_later (World.ownsRow.alloc hos' (.cells #[.string tx', .bool true, .int .i64 (pl : Nat)] 29)) hb1
        clear hb hb1 hos'
        have hm : k ≤ 1000000 := by omega
        go_wp2_with (at_builtin; refine wpList_append_elem infoStrR rfl (by decide) (by decide) Tryd.underlying32 _ rfl _ _ rfl C0 _ _ _ rfl (World.ownsRow.alloc hos2 _) w1.heap.size rfl [.string (bt wb)] rfl ?ta1 ?ta2 hm ?ta3 ?ta4)
        case ta1 =>
          intro j u hj
          match j, hj with
          | 0, hj => simp at hj; subst hj; exact cell_new1 _ _ _
        case ta2 => intro u hu; simp at hu; subst hu; rfl
        case ta3 => have := hb2.size; simp; omega
        case ta4 =>
          intro ao' cap' w3 g3 g4
          have hb4 : Below C0 w w3 := orow_below (World.ownsRow.alloc hos2 _) (hb2.alloc (by have := hb2.size; omega) _) g4 hCs
          have htl1 : ((l.map wordB).take (k + 1)).length = k + 1 := by rw [List.length_take, List.length_map]; omega
          have hos3 : OS C0 w3 ao' cap' ((l.map wordB).take (k + 1)) := by
            unfold OS
            rw [htl1, HSN.out]
            unfold scells
            rw [List.map_append]
            exact g3
          have HOS := Lib.hid hos3
          clear g3 g4 hb2 hos2 hos3 d0
          go_wp2_with fail
          go_roundw
          case rel => exact ⟨k + 1, ao', cap', by go_num, by omega, rfl, HOS, hb4⟩
          case measure => simp [intOf]; omega
      | false =>
        have hwb : wordB ⟨tx, false, pl⟩ = tx := rfl
        rw [hwb] at HSN HWL
        have HJ2 := Lib.hid (rfl : bt tx = bt tx)
        go_upto_region 7 with fail
        have hb2 : Below C0 w (wr.alloc (.cells #[.string (bt tx), .bool false, .int .i64 (pl : Nat)] 29)) := hb.alloc (by have := hb.size; omega) _
        have hos2 := World.ownsRow.alloc hos' (.cells #[.string (bt tx), .bool false, .int .i64 (pl : Nat)] 29)
        have kq := Blk.new wr 29 #[.string (bt tx), .bool false, .int .i64 (pl : Nat)]
        generalize wr.heap.size = q at *
        generalize wr.alloc (.cells #[.string (bt tx), .bool false, .int .i64 (pl : Nat)] 29) = w1 at *
        have dq := kq.at3
        have hr := Below.refl w1.heap.size w1
        clear hb hos' hwb
        have hm : k ≤ 1000000 := by omega
        go_wp2_with (at_builtin; refine wpList_append_elem infoStrR rfl (by decide) (by decide) Tryd.underlying32 _ rfl _ _ rfl C0 _ _ _ rfl (World.ownsRow.alloc hos2 _) w1.heap.size rfl [.string (bt tx)] rfl ?tb1 ?tb2 hm ?tb3 ?tb4)
        case tb2 => first | rfl | (intro u hu; simp at hu; subst hu; rfl)
        case tb3 => have := hb2.size; simp; omega
        case tb4 =>
          intro ao' cap' w3 g3 g4
          have hb4 : Below C0 w w3 := orow_below (World.ownsRow.alloc hos2 _) (hb2.alloc (by have := hb2.size; omega) _) g4 hCs
          have htl1 : ((l.map wordB).take (k + 1)).length = k + 1 := by rw [List.length_take, List.length_map]; omega
          have hos3 : OS C0 w3 ao' cap' ((l.map wordB).take (k + 1)) := by
            unfold OS
            rw [htl1, HSN.out]
            unfold scells
            rw [List.map_append]
            exact g3
          have HOS := Lib.hid hos3
          clear g3 g4 hb2 hos2 hos3 d0
          go_wp2_with fail
          go_roundw
          case rel => exact ⟨k + 1, ao', cap', by go_num, by omega, rfl, HOS, hb4⟩
          case measure => simp [intOf]; omega
    · obtain rfl : k = l.length := by omega
      have e1 : ¬ (l.length : Int) < (l.length : Int) := by omega
      have hT : (l.map wordB).take l.length = l.map wordB := List.take_of_length_le (by simp)
      have hos' := hos.out
      rw [hT] at hos'
      have HE := Lib.hid (joinT_eq l)
      clear hT hos
      rcases Nat.eq_zero_or_pos l.length with hz | hz
      · have hnil : l = [] := List.eq_nil_of_length_eq_zero hz
        subst hnil
        go_wp2_with fail
        refine (Tryd.strings_Join_none _ _ _ _).mono ?_; rintro e w2 ⟨rfl, rfl⟩
        go_wp2_with fail
        go_ret
        have hCe := HC.out
        exact ⟨rfl, by rw [hCe]; exact hb⟩
      · obtain ⟨g, rfl, hgl, _⟩ := os_at hos' 0 (by simpa using hz)
        have hjn : ∀ w', Below wr.heap.size wr w' → Calls Tryd.prog 24 #[.slice (some ⟨g, 0, none⟩) l.length bcap, .string ⟨#[32]⟩] w' fun e w'' => e = .returned (.string (bt (joinT l))) ∧ Below w'.heap.size w' w'' := fun w' hw' => by
          have hcc : l.length ≤ bcap := by
            rcases hos'.2 with ⟨hv, h0⟩ | ⟨g', cap', cur, hv, _, _, h1, _⟩
            · cases hv
            · cases hv; simpa using h1
          have h2 : (l.map (fun x => bt (wordB x))).map (fun x : ByteArray => x.data.toList) = l.map wordB := by
            rw [List.map_map]; rfl
          have := Tryd.strings_Join g 0 bcap (l.map (fun x => bt (wordB x))) ⟨#[32]⟩ w' (fun j x hj => by
            rw [List.getElem?_map] at hj
            obtain ⟨y, hy, rfl⟩ := Option.map_eq_some_iff.1 hj
            obtain ⟨hjl, rfl⟩ := List.getElem?_eq_some_iff.1 hy
            obtain ⟨g', hg', _, hc⟩ := os_at hos' j (by simpa using hjl)
            cases hg'
            rw [Nat.zero_add]
            have := hc w' hw'
            rwa [List.getElem_map] at this) (Nat.lt_of_lt_of_le hgl hw'.size) (by simp; omega) (by simpa using hcc) (by
              rw [h2, ← joinT_eq]
              have := HJ.out
              omega)
          rw [h2, ← joinT_eq, List.length_map] at this
          exact this
        have HJN := Lib.hid hjn
        clear hjn hos'
        go_wp2_with fail
        refine (HJN.out _ (Below.refl _ _)).mono ?_; rintro e w2 ⟨rfl, hb2⟩
        go_wp2_with fail
        go_ret
        have hCe := HC.out
        exact ⟨rfl, by rw [hCe]; exact hb.up hb2 hCs⟩
end Go.Proofs.YtnaacbibciplfaaDoor
