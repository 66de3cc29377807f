/-
  The events of a text, as log reads them: the walk.
  Conditions: the text is short; the errors of strconv and the tables stand in their variables.
-/
import Derived.Test.YtmnkekepccdlcaaDoorLogRd
import Derived.Deep.DeepCutAuto
namespace Go.Proofs.YtmnkekepccdlcaaDoor
set_option linter.unusedVariables false
set_option linter.unusedSimpArgs false
open Go.RowKit

theorem linesL_facts : ∀ t : List UInt8, (linesL t).length ≤ t.length + 1 ∧ ∀ x ∈ linesL t, x.length ≤ t.length
  | [] => by simp [linesL]
  | c :: t => by
    obtain ⟨h1, h2⟩ := linesL_facts t
    by_cases hc : c = 10
    · have e : linesL (c :: t) = [] :: linesL t := by show (if c = 10 then [] :: linesL t else match linesL t with | [] => [[c]] | l :: r => (c :: l) :: r) = _; rw [if_pos hc]
      rw [e]
      refine ⟨by simp only [List.length_cons]; omega, fun x hx => ?_⟩
      rcases List.mem_cons.1 hx with rfl | hx
      · simp
      · have := h2 x hx; simp only [List.length_cons]; omega
    · cases hl : linesL t with
      | nil => exact absurd hl (linesL_ne t)
      | cons l r =>
        have e : linesL (c :: t) = (c :: l) :: r := by show (if c = 10 then [] :: linesL t else match linesL t with | [] => [[c]] | l :: r => (c :: l) :: r) = _; rw [if_neg hc, hl]
        rw [e]
        rw [hl] at h1 h2
        refine ⟨by simp only [List.length_cons] at h1 ⊢; omega, fun x hx => ?_⟩
        rcases List.mem_cons.1 hx with rfl | hx
        · have := h2 l (by simp); simp only [List.length_cons]; omega
        · have := h2 x (by simp [hx]); simp only [List.length_cons]; omega
theorem lLinesS (s : ByteArray) (w : World) (hs : s.size ≤ 100000) (he : EnvL w) : Calls Tryd.prog 10 #[.string s, .string ⟨#[10]⟩] w fun e w' =>
    e = .returned (.slice (some ⟨w.heap.size, 0, none⟩) (linesL s.data.toList).length (linesL s.data.toList).length) ∧ WL w' w.heap.size (linesL s.data.toList) ∧ Below w.heap.size w w' := by
  obtain ⟨m, hm⟩ := he.maxl
  have hcount : Lib.countB s ⟨#[10]⟩ = s.data.toList.count 10 := Lib.count_one 10 s.data.toList
  have hdat : (Lib.splitB ⟨#[10]⟩ 0 (Lib.countB s ⟨#[10]⟩) s).map (fun x : ByteArray => x.data.toList) = linesL s.data.toList := by
    rw [Lib.splitB_data, hcount]
    exact split_lines _ _ (Nat.le_refl _)
  have hlen : (linesL s.data.toList).length = Lib.countB s ⟨#[10]⟩ + 1 := by
    rw [← hdat, List.length_map, Lib.splitB_all _ (by decide) 0 _ s rfl]
  refine (Tryd.strings_Split s ⟨#[10]⟩ m w (by omega) hm (by decide)).mono ?_
  rintro e w' ⟨rfl, rfl⟩
  refine ⟨by rw [hlen], ?_, (Below.refl _ _).alloc (Nat.le_refl _) _⟩
  rw [← hdat]
  exact wl_data fun i x hx => ((Blk.new w 9 _).cell i).trans (by simp [hx])

def rdRes (r : Except Nat (List Ev)) (B : Nat) (w0 w : World) (e : Ending) : Prop := match r with
  | .ok l => ∃ ao cap, e = .returned (.tuple #[.slice ao l.length cap, .int .i64 0, .int .i64 0]) ∧ OEv B w ao cap l ∧ Below w0.heap.size w0 w
  | .error j => e = .returned (.tuple #[.slice none 0 0, .int .i64 (j : Int), .int .i64 2]) ∧ Below w0.heap.size w0 w

theorem cutL_facts (L : List (List UInt8)) (hne : L ≠ []) : ∃ x, L[L.length - 1]? = some x ∧ (x = [] → cutL L = L.dropLast) ∧ (x ≠ [] → cutL L = L) := by
  have h1 : L.length - 1 < L.length := by
    cases L with
    | nil => exact absurd rfl hne
    | cons => simp
  refine ⟨L[L.length - 1], List.getElem?_eq_getElem h1, ?_, ?_⟩
  · intro h
    unfold cutL
    rw [List.getLast?_eq_getElem?, List.getElem?_eq_getElem h1, h, if_pos rfl]
  · intro h
    unfold cutL
    rw [List.getLast?_eq_getElem?, List.getElem?_eq_getElem h1, if_neg (by simpa using h)]

set_option maxHeartbeats 4000000 in
set_option maxRecDepth 100000 in
theorem lRead (s : ByteArray) (w : World) (hs : s.size ≤ 10000) (he : EnvL w) : Calls Tryd.prog 5 #[.string s] w fun e w' => rdRes (rdE 0 (cutL (linesL s.data.toList))) w.heap.size w w' e := by
  have HF := Lib.hid (lLinesS s w (by omega) he)
  have HE := Lib.hid he
  have hne := linesL_ne s.data.toList
  have hszl : s.data.toList.length ≤ 10000 := hs
  have hsz : ∀ x ∈ linesL s.data.toList, x.length ≤ 10000 := fun x hx => Nat.le_trans ((linesL_facts _).2 x hx) hszl
  have hll : (linesL s.data.toList).length ≤ 10001 := by have := (linesL_facts s.data.toList).1; omega
  clear hszl
  generalize linesL s.data.toList = L at *
  obtain ⟨x0, hx0, hA, hB'⟩ := cutL_facts L hne
  have h0 : 0 < L.length := by cases L with | nil => exact absurd rfl hne | cons => simp
  clear he hne hs
  have e1 : IntKind.i64.wrap ((L.length : Int) - 1) = ((L.length - 1 : Nat) : Int) := by rw [IntWalk.i64_in _ (by omega)]; omega
  have e2 : (0 : Int) ≤ ((L.length - 1 : Nat) : Int) := by omega
  have e3 : ((L.length - 1 : Nat) : Int) < (L.length : Int) := by omega
  have HX := Lib.hid hx0
  have HAB := Lib.hid (And.intro hA hB')
  have HS := Lib.hid (And.intro hsz hll)
  clear hA hB' hsz hll h0 hx0
  go_enter Tryd.func5, Tryd.ntmps5
  go_wp2_with fail
  refine HF.out.mono ?_; rintro e w1 ⟨rfl, hwl, hb1⟩
  have hc := hwl _ _ HX.out
  generalize hg : w.heap.size = g at *
  have HG := Lib.hid hg
  have hgB : g ≤ w.heap.size := Nat.le_of_eq hg.symm
  have HWL := Lib.hid hwl
  have HB1 := Lib.hid hb1
  clear hwl hb1 hg HF
  go_upto_if 19 with fail
  go_cut [6] (fun v wx => v = .slice (some ⟨g, 0, none⟩) (cutL L).length L.length ∧ wx = w1)
  case first =>
    cases hx : x0.isEmpty with
    | true =>
      have hl : (cutL L).length = L.length - 1 := by rw [HAB.out.1 (List.isEmpty_iff.1 hx), List.length_dropLast]
      have HL := Lib.hid hl
      clear hl
      go_wp2_with fail
      go_meet
      exact ⟨by rw [HL.out], rfl⟩
    | false =>
      have hl : cutL L = L := HAB.out.2 (fun h => by rw [h] at hx; cases hx)
      have HL := Lib.hid hl
      clear hl
      go_wp2_with fail
      go_meet
      exact ⟨by rw [HL.out], rfl⟩
  case rest =>
    obtain ⟨rfl, rfl⟩ := hcut
    have hsub : ∀ (i : Nat) (x : List UInt8), (cutL L)[i]? = some x → L[i]? = some x := by
      intro i x hi
      unfold cutL at hi
      split at hi
      · have hlt := (List.getElem?_eq_some_iff.1 hi).1
        rw [List.getElem?_dropLast] at hi
        split at hi
        · exact hi
        · cases hi
      · exact hi
    have hML : (cutL L).length ≤ 10001 := by
      unfold cutL
      split
      · rw [List.length_dropLast]; have := HS.out.2; omega
      · exact HS.out.2
    have HM : Hid ((∀ (i : Nat) (x : List UInt8), (cutL L)[i]? = some x → wc.cell? ⟨g, i, none⟩ = some (.string ⟨x.toArray⟩) ∧ x.length ≤ 10000)) := Lib.hid fun i x hi => ⟨HWL.out i x (hsub i x hi), HS.out.1 x (List.mem_of_getElem? (hsub i x hi))⟩
    obtain ⟨M, hMM⟩ : ∃ M, cutL L = M := ⟨_, rfl⟩
    rw [hMM] at HM hML ⊢
    have HMQ := Lib.hid hMM
    clear hMM
    clear hsub HX HAB HS HWL hc e1 e2 e3
    generalize L.length = LL at *
    have HMM := Lib.hid (preE_nil (rdE 0 M)).symm
    go_wp2_with fail
    go_loopw [5, 27] (fun ov iv wr => ∃ (k : Nat) (ao : Option Addr) (cap : Nat) (acc : List Ev), iv = .int .i64 k ∧ k ≤ M.length ∧ ov = .slice ao acc.length cap ∧ acc.length ≤ k ∧ Hid (OEv wc.heap.size wr ao cap acc) ∧ Below wc.heap.size wc wr ∧
      Hid (rdE 0 M = preE acc (rdE k (M.drop k)))) (fun _ iv _ => M.length - (intOf iv).toNat)
    case atStart => exact ⟨0, none, 0, [], rfl, Nat.zero_le _, rfl, Nat.le_refl _, Lib.hid (oev_nil _ _), Below.refl _ _, HMM⟩
    case round =>
      obtain ⟨k, ao, cap, acc, rfl, hk, rfl, hal, hos, hbw, hI⟩ := hrel
      have hb : Below g w wr := HB1.out.up hbw hgB
      have e0 : (0 : Int) ≤ (k : Int) := by omega
      have hm : acc.length ≤ 1000000 := by omega
      by_cases hlt : k < M.length
      · have e1 : (k : Int) < (M.length : Int) := by omega
        have hd : M.drop k = M[k] :: M.drop (k + 1) := List.drop_eq_getElem_cons hlt
        obtain ⟨hc0, hxl⟩ := HM.out k M[k] (List.getElem?_eq_getElem hlt)
        have hc : wr.cell? ⟨g, k, none⟩ = some (.string ⟨M[k].toArray⟩) := (hbw.cell (p := ⟨g, k, none⟩) (block_lt hc0)).trans hc0
        have hI2 := hI.out
        rw [hd] at hI2
        have HPs := Lib.hid (lparse M[k] hxl wr (HE.out.later (by rw [HG.out]; exact hb)))
        generalize M[k] = x at *
        clear hc0 hxl hd hI
        cases hp : parseEv x with
        | none =>
          rw [hp] at HPs
          have HPs : Hid (Calls Tryd.prog 11 #[.string ⟨x.toArray⟩] wr fun e w' => e = .returned (.tuple #[.agg #[.int .i64 0, .int .i64 0, .int .i64 0, .int .i64 0, .string ⟨#[]⟩, .int .i64 0, .int .i64 0, .int .i64 0, .int .i64 0, .int .i64 0, .int .i64 0, .int .i64 0], .int .i64 2]) ∧ Below wr.heap.size wr w') := HPs
          have HR := Lib.hid (hI2.trans (rdE_none acc hp))
          clear hI2 hp
          go_wp2_with fail
          refine HPs.out.mono ?_; rintro e w3 ⟨rfl, hb3⟩
          go_wp2_with fail
          go_ret3
          rw [HMQ.out, HR.out, HG.out]
          exact ⟨by simp, by rw [HG.out]; exact (hb.up hb3 hgB).alloc (Nat.le_trans hgB (hb.up hb3 hgB).size) _⟩
        | some y =>
          rw [hp] at HPs
          have HPs : Hid (Calls Tryd.prog 11 #[.string ⟨x.toArray⟩] wr fun e w' => e = .returned (.tuple #[.agg #[.int .i64 y.kind, .int .i64 y.id, .int .i64 y.n, .int .i64 y.tick, .string y.bytes, .int .i64 y.err, .int .i64 y.sT, .int .i64 y.sA, .int .i64 y.sW, .int .i64 y.sR, .int .i64 y.sN, .int .i64 y.sS], .int .i64 0]) ∧ Below wr.heap.size wr w') := HPs
          have HR := Lib.hid (hI2.trans (rdE_some acc hp))
          clear hI2 hp
          go_wp2_with fail
          refine HPs.out.mono ?_; rintro e w3 ⟨rfl, hb3⟩
          have hos2 := oev_later hos.out hb3
          have hbw4 := hbw.up hb3
          unfold OEv at hos2
          clear hos hb hbw hb3 hc
          go_wp2_with (at_builtin; refine wpList_append_elem infoEv rfl (by decide) (by decide) Tryd.underlying23 _ rfl _ _ rfl wc.heap.size _ _ _ rfl (World.ownsRow.alloc (World.ownsRow.alloc hos2 _) _) (w3.heap.size + 1) rfl [.int .i64 y.kind, .int .i64 y.id, .int .i64 y.n, .int .i64 y.tick, .string y.bytes, .int .i64 y.err, .int .i64 y.sT, .int .i64 y.sA, .int .i64 y.sW, .int .i64 y.sR, .int .i64 y.sN, .int .i64 y.sS] rfl ?ta1 ?ta2 hm ?ta3 ?ta4)
          case ta1 =>
            have kq : Blk ((w3.alloc (.cells #[.int .i64 y.kind, .int .i64 y.id, .int .i64 y.n, .int .i64 y.tick, .string y.bytes, .int .i64 y.err, .int .i64 y.sT, .int .i64 y.sA, .int .i64 y.sW, .int .i64 y.sR, .int .i64 y.sN, .int .i64 y.sS] 32)).alloc (.cells #[.int .i64 y.kind, .int .i64 y.id, .int .i64 y.n, .int .i64 y.tick, .string y.bytes, .int .i64 y.err, .int .i64 y.sT, .int .i64 y.sA, .int .i64 y.sW, .int .i64 y.sR, .int .i64 y.sN, .int .i64 y.sS] 32)) (w3.heap.size + 1) 32 #[.int .i64 y.kind, .int .i64 y.id, .int .i64 y.n, .int .i64 y.tick, .string y.bytes, .int .i64 y.err, .int .i64 y.sT, .int .i64 y.sA, .int .i64 y.sW, .int .i64 y.sR, .int .i64 y.sN, .int .i64 y.sS] := by simpa using Blk.new (w3.alloc (.cells #[.int .i64 y.kind, .int .i64 y.id, .int .i64 y.n, .int .i64 y.tick, .string y.bytes, .int .i64 y.err, .int .i64 y.sT, .int .i64 y.sA, .int .i64 y.sW, .int .i64 y.sR, .int .i64 y.sN, .int .i64 y.sS] 32)) 32 #[.int .i64 y.kind, .int .i64 y.id, .int .i64 y.n, .int .i64 y.tick, .string y.bytes, .int .i64 y.err, .int .i64 y.sT, .int .i64 y.sA, .int .i64 y.sW, .int .i64 y.sR, .int .i64 y.sN, .int .i64 y.sS]
            intro j u hj
            exact (kq.cell j).trans (by simpa using hj)
          case ta2 => intro u hu; simp at hu; rcases hu with rfl | rfl | rfl | rfl | rfl | rfl | rfl | rfl | rfl | rfl | rfl | rfl <;> rfl
          case ta3 => have := hbw4.size; simp; omega
          case ta4 =>
            intro ao' cap' w5 g3 g4
            have hbw5 : Below wc.heap.size wc w5 := orow_below (World.ownsRow.alloc (World.ownsRow.alloc hos2 _) _) ((hbw4.alloc hbw4.size _).alloc (by have := hbw4.size; simp; omega) _) g4 (Nat.le_refl _)
            have hl1 : (acc ++ [y]).length = acc.length + 1 := by simp
            have hos3 : OEv wc.heap.size w5 ao' cap' (acc ++ [y]) := by
              unfold OEv
              rw [hl1, evsCells_snoc]
              exact g3
            have HOS := Lib.hid hos3
            clear g3 g4 hos2 hos3 hbw4
            go_wp2_with fail
            go_roundw
            case rel => exact ⟨k + 1, ao', cap', _, by go_num, by omega, by rw [hl1], by omega, HOS, hbw5, HR⟩
            case measure => simp [intOf]; omega
      · obtain rfl : k = M.length := by omega
        have hI2 := hI.out
        rw [List.drop_length] at hI2
        have HR := Lib.hid (show rdE 0 M = .ok acc from hI2.trans (show Except.ok (acc ++ []) = Except.ok acc by rw [List.append_nil]))
        clear hI2 hI
        go_wp2_with fail
        go_ret3
        rw [HMQ.out, HR.out, HG.out]
        exact ⟨ao, cap, rfl, orow_lower hos.out (Nat.le_trans hgB HB1.out.size), by rw [HG.out]; exact hb⟩
end Go.Proofs.YtmnkekepccdlcaaDoor
